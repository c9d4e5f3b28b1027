/- The contract of the reference's Entries. -/
import Derived.Test.YtlinolgbpnokcaaGreatDoorDirOfAny
import Derived.Test.YtlinolgbpnokcaaGreatDoorDirRefBytes
import Derived.RegionTactic
import Derived.Lib.SlicesS
import Derived.Deep.RegionLaw
namespace Go.Proofs.YtlinolgbpnokcaaGreatDoor.Dr
open Go.RowKit Go.Proofs.YtlinolgbpnokcaaGreatDoor.Mem Go.Proofs.YtlinolgbpnokcaaGreatDoor.Pg

def EntPost (w : World) (k d : Int) (l : List UInt8) (e : Ending) (w' : World) : Prop :=
  ((∃ n v, IsDir k d l n ∧ e = .returned (.tuple #[v, .bool true]) ∧ w'.ownsRow w.heap.size 3 1 v n (ints (ents l n))) ∨
   ((∀ n, ¬ IsDir k d l n) ∧ ∃ A m c, e = .returned (.tuple #[.slice A m c, .bool false]))) ∧ Below w.heap.size w w'

set_option maxRecDepth 100000 in
set_option maxHeartbeats 4000000 in
theorem rent_head (k d x : Int) (l : List UInt8) (w : World) (h : k ≠ 1 ∨ d < 0 ∨ 5 < d ∨ l.length ≠ 240) :
    Calls Tryz.prog 7 #[.agg #[.int .i64 k, .int .i64 d, .int .i64 x, .string (str l)]] w (EntPost w k d l) := by
  have hno : ∀ n, ¬ IsDir k d l n := fun n hd => by
    have := hd.kind; have := hd.lo; have := hd.hi; have := hd.len
    omega
  have hsz := str_size l
  have Hno := Lib.hid hno
  clear hno
  obtain ⟨S, hS⟩ : ∃ S, S = str l := ⟨_, rfl⟩
  rw [← hS] at hsz ⊢
  generalize l.length = L at *
  clear hS
  rcases (show k ≠ 1 ∨ k = 1 ∧ (d < 0 ∨ ¬ d < 0 ∧ (5 < d ∨ ¬ 5 < d ∧ L ≠ 240)) from by omega) with h1 | ⟨h1, h2 | ⟨h2, h3 | ⟨h3, h4⟩⟩⟩
  · have d1 : (k != 1) = true := by simpa using h1
    clear h
    go_enter Tryz.func7, Tryz.ntmps7
    go_wp2
    go_ret2
    exact ⟨.inr ⟨Hno.out, _, _, _, rfl⟩, below_al (Below.refl _ w) _⟩
  · subst h1
    clear h
    go_enter Tryz.func7, Tryz.ntmps7
    go_wp2
    go_ret2
    exact ⟨.inr ⟨Hno.out, _, _, _, rfl⟩, below_al (Below.refl _ w) _⟩
  · subst h1
    clear h
    go_enter Tryz.func7, Tryz.ntmps7
    go_wp2
    go_ret2
    exact ⟨.inr ⟨Hno.out, _, _, _, rfl⟩, below_al (Below.refl _ w) _⟩
  · subst h1
    have d4 : ((L : Int) != 240) = true := by simp; omega
    clear h
    go_enter Tryz.func7, Tryz.ntmps7
    go_wp2
    go_ret2
    exact ⟨.inr ⟨Hno.out, _, _, _, rfl⟩, below_al (Below.refl _ w) _⟩

theorem ext_two (l : List UInt8) (i : Nat) (h : i + 2 ≤ l.length) : (str l).extract i (i + 2) = ⟨#[l.getD i 0, l.getD (i + 1) 0]⟩ := by
  apply ByteArray.ext
  apply Array.toList_inj.1
  rw [ByteArray.data_extract, Array.toList_extract]
  show (l.drop i).take (i + 2 - i) = [l.getD i 0, l.getD (i + 1) 0]
  rw [show i + 2 - i = 2 by omega, List.drop_eq_getElem_cons (by omega), List.drop_eq_getElem_cons (by omega)]
  rw [List.take_succ_cons, List.take_succ_cons, List.take_zero]
  simp [List.getD_eq_getElem?_getD, List.getElem?_eq_getElem (show i < l.length by omega), List.getElem?_eq_getElem (show i + 1 < l.length by omega)]

set_option maxRecDepth 100000 in
set_option maxHeartbeats 4000000 in
theorem rent_body (d x : Int) (l : List UInt8) (n : Nat) (w : World) (h0 : 0 ≤ d) (h5 : d ≤ 5) (hl : l.length = 240) (hn : n = 2 ^ d.toNat) (hn1 : 1 ≤ n) (hn2 : n ≤ 32) (hsh : wrap64 (2 ^ d.toNat) = (n : Int)) :
    Calls Tryz.prog 7 #[.agg #[.int .i64 1, .int .i64 d, .int .i64 x, .string (str l)]] w (EntPost w 1 d l) := by
  have hsz := str_size l
  rw [hl] at hsz
  obtain ⟨S, hS⟩ : ∃ S, S = str l := ⟨_, rfl⟩
  rw [← hS] at hsz ⊢
  obtain ⟨i0, hif, hz0, hz1, hz2⟩ := info_parts info_int
  have HS := Lib.hid hS
  have Hl := Lib.hid hl
  have Hn := Lib.hid hn
  have Hof := Lib.hid of2_any
  have Hz := Lib.hid refZeros_any
  have hw1 : IntKind.u64.wrap d = d := IntWalk.u64_in _ (by omega)
  clear hS hl hn
  go_enter Tryz.func7, Tryz.ntmps7
  go_wp2_with fail
  rw [hsh]
  go_loopw [5, 6] (fun v i wr => ∃ j : Nat, i = .int .i64 j ∧ j ≤ n ∧ wr.heap[w.heap.size]? = some (.cells #[.int .i64 1, .int .i64 d, .int .i64 x, .string S] 23 (0, 0)) ∧ wr.ownsRow (w.heap.size + 1) 3 1 v j (ints (ents l j)) ∧ Below w.heap.size w wr ∧ Hid (∀ i, i < j → mayP (ent l i))) (fun _ i _ => n - (intOf i).toNat)
  case atStart => exact ⟨0, rfl, Nat.zero_le _, heap_alloc_new w _, World.ownsRow_nil _ _ _ _, below_al (Below.refl _ w) _, Lib.hid (fun i hi => absurd hi (by omega))⟩
  case round =>
    obtain ⟨j, rfl, hj, hpg, hown, hbel, hmays⟩ := hrel
    have c1 := blk_cell hpg
    have z1 := lt_of_block hpg
    by_cases hlt : j < n
    · obtain ⟨J2, hJ2⟩ : ∃ J2, J2 = 2 * j := ⟨_, rfl⟩
      obtain ⟨J4, hJ4⟩ : ∃ J4, J4 = 2 * j + 2 := ⟨_, rfl⟩
      obtain ⟨E, hE⟩ : ∃ E, E = ent l j := ⟨_, rfl⟩
      have i1 : IntKind.i64.wrap (2 * (j : Int)) = (J2 : Int) := by rw [IntWalk.i64_in _ (by omega)]; omega
      have i2 : IntKind.i64.wrap ((J2 : Int) + 2) = (J4 : Int) := by rw [IntWalk.i64_in _ (by omega)]; omega
      have i3 : IntKind.i64.wrap ((j : Int) + 1) = (j : Int) + 1 := IntWalk.i64_in _ (by omega)
      have i4 : J4 ≤ 240 := by omega
      have i5 : J2 ≤ J4 := by omega
      have i6 : (J4 : Int) ≤ 240 := by omega
      have i7 : (J2 : Int) ≤ J4 := by omega
      obtain ⟨T, hT⟩ : ∃ T, T = S.extract J2 J4 := ⟨_, rfl⟩
      have hof : Hid (∀ w, Calls Tryz.prog 22 #[.string T] w fun e w' => e = .returned (.int .i64 E) ∧ Below w.heap.size w w') := Lib.hid fun w => by
        have hex : T = ⟨#[l.getD J2 0, l.getD (J2 + 1) 0]⟩ := by
          rw [hT, HS.out, hJ4, ← hJ2]
          exact ext_two l J2 (by have := Hl.out; omega)
        rw [hex, hE, ent, bt, bt, ← hJ2]
        exact Hof.out _ _ w
      have HE := Lib.hid hE
      have HJ2 := Lib.hid hJ2
      have HJ4 := Lib.hid hJ4
      clear hE hJ2 hJ4
      go_wp2_with fail
      rw [← hT]
      refine (hof.out _).mono ?_
      rintro e w2 ⟨rfl, hb2⟩
      have hp2 := blk_keep hpg hb2
      have b2 := below_base hbel hbel.size hb2
      have ho2 := own_below hown hb2
      clear hpg hbel hb2 hown c1 z1
      by_cases hmj : mayP E
      · have hE2 : ¬ E < 2 := by have := hmj.1; omega
        have hE3 : ¬ 64 ≤ E := by have := hmj.2; omega
        go_wp2_with (at_builtin; refine wpList_append_own _ rfl (.tmp 51) (.tmp 53) _ rfl (w.heap.size + 1) 3 i0 (.int .i64 0) 1 8 Tryz.underlying29 hif hz0 hz1 hz2 rfl (by decide) _ j (ints (ents l j)) rfl (ho2.alloc _) ⟨w2.heap.size, 0, none⟩ 1 1 [.int .i64 E] rfl rfl (cells_one _ _ _) (by intro u hu; simp at hu; subst hu; rfl) (by unfold maxLen; omega) (by omega) (by have := lt_of_block hp2; simp; omega) ?_; intro v' w4 hown4 hgrow _)
        have hg4 : (w2.alloc (.cells #[.int .i64 E] 3)).grownBy w4 u5.ownBlock := hgrow
        case roundEnd =>
          have hp4 := keep_grown (W := w2.alloc (.cells #[.int .i64 E] 3)) ho2 hg4 (Nat.lt_succ_self _) (hal hp2)
          refine ⟨⟨j + 1, by simp, by omega, hp4, ?_, below_grown (below_al b2 _) (Nat.le_trans b2.size (by simp)) (own_weaken ho2 (by omega)) hg4, Lib.hid fun i hi => ?_⟩, by simp only [intOf]; omega⟩
          · rw [ents_succ]
            have h9 := hown4
            rw [HE.out] at h9
            simpa [ints] using h9
          · rcases Nat.lt_or_ge i j with h | h
            · exact hmays.out i h
            · obtain rfl : i = j := by omega
              rw [← HE.out]
              exact hmj
      · have Hno : Hid (∀ m, ¬ IsDir 1 d l m) := Lib.hid fun m hd => by
          have hm : m = n := by rw [hd.size, Hn.out]
          subst hm
          exact hmj (by rw [HE.out]; exact hd.may j hlt)
        by_cases hE2 : E < 2
        · go_wp2_with fail
          go_ret2
          exact ⟨.inr ⟨Hno.out, _, _, _, rfl⟩, b2⟩
        · have hE3 : 64 ≤ E := by
            by_cases h : 64 ≤ E
            · exact h
            · exact absurd ⟨by omega, by omega⟩ hmj
          go_wp2_with fail
          go_ret2
          exact ⟨.inr ⟨Hno.out, _, _, _, rfl⟩, b2⟩
    · obtain rfl : j = n := by omega
      obtain ⟨N2, hN2⟩ : ∃ N2, N2 = 2 * j := ⟨_, rfl⟩
      obtain ⟨M, hM⟩ : ∃ M, M = 240 - 2 * j := ⟨_, rfl⟩
      have i1 : IntKind.i64.wrap (2 * (j : Int)) = (N2 : Int) := by rw [IntWalk.i64_in _ (by omega)]; omega
      have i2 : IntKind.i64.wrap (240 - (N2 : Int)) = (M : Int) := by rw [IntWalk.i64_in _ (by omega)]; omega
      have i3 : (N2 : Int) ≤ 240 := by omega
      have hzz := Lib.hid (fun w => Hz.out M w (by omega))
      obtain ⟨Av, cv, rfl⟩ := own_slice hown
      have hb1 := below_drN hbel 1
      have ho1 : (wr.drewN 1).ownsRow _ _ _ _ _ _ := own_below hown (below_drN (Below.refl _ wr) 1)
      have HN2 := Lib.hid hN2
      have HM := Lib.hid hM
      have fin : ∀ W : World, W.ownsRow (w.heap.size + 1) 3 1 (.slice Av j cv) j (ints (ents l j)) → Below w.heap.size w W → EntPost w 1 d l (.returned (.tuple #[.slice Av j cv, .bool ((S.extract N2 240).toList == zs M)])) W := fun W ho hb => by
        have hl : (S.extract N2 240).toList = l.drop N2 := by
          rw [HS.out, ByteArray.toList_eq, ByteArray.data_extract, Array.toList_extract]
          show (l.drop N2).take (240 - N2) = l.drop N2
          exact List.take_of_length_le (by rw [List.length_drop, Hl.out]; exact Nat.le_refl _)
        by_cases hz : ∀ c ∈ l.drop N2, c = 0
        · have he : l.drop N2 = zs M := List.eq_replicate_iff.2 ⟨by rw [List.length_drop, Hl.out]; have := HN2.out; have := HM.out; omega, hz⟩
          rw [hl, he, beq_self_eq_true]
          exact ⟨.inl ⟨j, _, ⟨rfl, h0, h5, Hl.out, Hn.out, hmays.out, by rw [← HN2.out]; exact hz⟩, rfl, own_weaken ho (Nat.le_succ _)⟩, hb⟩
        · have he : (l.drop N2 == zs M) = false := by
            rw [beq_eq_false_iff_ne]
            intro h
            refine hz fun c hc => ?_
            rw [h] at hc
            exact (List.mem_replicate.1 hc).2
          rw [hl, he]
          refine ⟨.inr ⟨fun m hd => ?_, _, _, _, rfl⟩, hb⟩
          have hm : m = j := by rw [hd.size, Hn.out]
          subst hm
          exact hz (by rw [HN2.out]; exact hd.rest)
      clear hN2 hM
      go_wp2_with fail
      go_region_law (go_simp; go_at_call 21; refine (hzz.out _).mono ?_; rintro e w2 ⟨rfl, hb2⟩; have hp2 := blk_keep (w := wr.drewN 1) hpg hb2; have b2 := below_base hb1 hb1.size hb2; have ho2 := own_below ho1 hb2; have c2 := blk_cell hp2; have z2 := lt_of_block hp2)
      all_goals go_wp2
      all_goals go_ret2
      all_goals simp [Act.put]
      all_goals exact fin _ ho2 b2

theorem refEntries_any (k d x : Int) (l : List UInt8) (w : World) :
    Calls Tryz.prog 7 #[.agg #[.int .i64 k, .int .i64 d, .int .i64 x, .string (str l)]] w (EntPost w k d l) := by
  by_cases h : k = 1 ∧ 0 ≤ d ∧ d ≤ 5 ∧ l.length = 240
  · obtain ⟨rfl, h0, h5, hl240⟩ := h
    obtain ⟨m, rfl⟩ := Int.eq_ofNat_of_zero_le h0
    obtain ⟨e, h1, h2⟩ := pow_small m (by omega)
    refine rent_body m x l (2 ^ m) w h0 h5 hl240 (by rw [Int.toNat_natCast]) h1 h2 ?_
    rw [e]
    exact (wrap_small _ (by omega)).1
  · exact rent_head k d x l w (by omega)
end Go.Proofs.YtlinolgbpnokcaaGreatDoor.Dr
