/- The contracts of package patch's Right, (*sheet).lay, All. -/
import Derived.Test.YtibbmmkjienekaaDoorPatDiff
import Derived.BigRegion
import Derived.Carry
namespace Go.Proofs.YtibbmmkjienekaaDoor.Gr
open Go.RowKit Go.Proofs.YtibbmmkjienekaaDoor.Mem Go.Proofs.YtibbmmkjienekaaDoor.Pg Go.Proofs.YtibbmmkjienekaaDoor.Kp
set_option linter.unusedSimpArgs false
set_option linter.unusedVariables false

/-- A patch that may be. -/
def Pat.ok (q : Pat) : Prop := 0 ≤ q.p ∧ q.p < 64 ∧ q.b ≠ [] ∧ q.a + q.b.length ≤ 256
/-- A page's bytes with a patch laid. -/
def layP (s : List UInt8) (q : Pat) : List UInt8 := s.take q.a ++ q.b ++ s.drop (q.a + q.b.length)
theorem layP_len (s : List UInt8) (q : Pat) (h : q.a + q.b.length ≤ s.length) : (layP s q).length = s.length := by
  unfold layP
  simp only [List.length_append, List.length_take, List.length_drop]; omega
def layAll (i : Int) (s : List UInt8) (l : List Pat) : List UInt8 := l.foldl (fun s q => if q.p = i then layP s q else s) s
theorem layAll_len (i : Int) (l : List Pat) : ∀ (s : List UInt8), s.length = 256 → (∀ q, q ∈ l → q.ok) → (layAll i s l).length = 256 := by
  induction l with
  | nil => intro s h _; exact h
  | cons q l ih =>
    intro s h ho
    refine ih _ ?_ (fun q' hq => ho q' (List.mem_cons_of_mem _ hq))
    show (if q.p = i then layP s q else s).length = 256
    split
    · rw [layP_len s q (by have := (ho q (List.mem_cons_self ..)).2.2.2; omega)]; exact h
    · exact h
theorem layAll_take {i : Int} {s : List UInt8} {l : List Pat} {j : Nat} (hj : j < l.length) : layAll i s (l.take (j + 1)) = (if l[j].p = i then layP (layAll i s (l.take j)) l[j] else layAll i s (l.take j)) := by
  rw [List.take_succ_eq_append_getElem hj]
  unfold layAll
  rw [List.foldl_append]
  rfl
theorem flatP_at {l : List Pat} {j : Nat} (hj : j < l.length) (r : Nat) (hr : r < 3) : (flatP l)[j * 3 + r]? = (l[j].cells)[r]? := by
  induction l generalizing j with
  | nil => simp at hj
  | cons a l ih =>
    have hf : flatP (a :: l) = a.cells ++ flatP l := by simp [flatP]
    have ha : a.cells.length = 3 := rfl
    rcases j with _ | j
    · rw [hf, List.getElem?_append_left (by omega)]
      simp
    · rw [hf, List.getElem?_append_right (by omega)]
      have e : (j + 1) * 3 + r - a.cells.length = j * 3 + r := by omega
      rw [e, ih (by simpa using hj)]
      simp
theorem below_keep {S : Nat → Prop} {B0 : Nat} {w a b : World} (h : Below B0 w a) (hB : B0 ≤ a.heap.size) (k : Keep S a b) (hs : ∀ i, S i → B0 ≤ i) : Below B0 w b := h.trans (k.to_below hB hs)
theorem str_app (a b : List UInt8) : str a ++ str b = str (a ++ b) := by
  apply ByteArray.ext
  apply Array.toList_inj.1
  simp
theorem lay_str (s : List UInt8) (q : Pat) (n : Nat) (hn : n = s.length) : (str s).extract 0 q.a ++ str q.b ++ (str s).extract (q.a + q.b.length) n = str (layP s q) := by
  subst hn
  rw [cut_cut, cut_cut, str_app, str_app]
  unfold layP
  rw [List.take_length]
  simp

set_option maxRecDepth 100000 in
theorem pright_yes (q : Pat) (w : World) (h : q.ok) :
    Calls Tryd.prog 33 #[q.v] w fun e w' => e = .returned (.bool true) ∧ Below w.heap.size w w' := by
  obtain ⟨i, a, b⟩ := q
  obtain ⟨h0, h1, h2, h3⟩ := h
  simp only at h0 h1 h2 h3
  simp only [Pat.v]
  have hsz : (str b).size = b.length := str_size b
  have hb0 : 0 < b.length := List.length_pos_iff.2 h2
  have ht0 : (⟨#[]⟩ : ByteArray).toList = [] := by kernel_rfl
  have hne : ¬ (str b).toList = [] := fun e => by
    have h0 := (Lib.bytes_beq_false_iff (str b) ⟨#[]⟩).2 (fun e => by rw [e] at hsz; have h9 : (⟨#[]⟩ : ByteArray).size = 0 := rfl; omega)
    rw [ht0, e] at h0
    cases h0
  have hne2 : ((str b).toList == []) = false := by simpa using hne
  have hne3 : decide ((str b).toList = []) = false := by simpa using hne
  have hne4 : ((str b).toList != []) = true := by simpa using hne
  obtain ⟨S, hS⟩ : ∃ S, S = str b := ⟨_, rfl⟩
  rw [← hS] at hsz hne hne2 hne3 hne4 ⊢
  have hc := blk_cell (heap_alloc_new w (.cells #[.int .i64 i, .int .i64 a, .string S] 57))
  have hb := below_al (Below.refl _ w) (.cells #[.int .i64 i, .int .i64 a, .string S] 57)
  have e0 : decide (0 ≤ i) = true := by simpa using h0
  have e1 : decide (i < 64) = true := by simpa using h1
  have e2 : decide ((0 : Int) ≤ (a : Int)) = true := by simp
  have e3 : decide ((a : Int) < 256) = true := by simp; omega
  have e3' : decide (a < 256) = true := by simp; omega
  have i1 : IntKind.i64.wrap (256 - (a : Int)) = 256 - (a : Int) := IntWalk.i64_in _ (by omega)
  have e4 : decide ((S.size : Int) ≤ 256 - (a : Int)) = true := by rw [hsz]; simp; omega
  clear hS h2 h3 hsz hb0 ht0
  go_enter Tryd.func33, Tryd.ntmps33
  go_wp2_with fail
  go_ret
  exact ⟨rfl, hb⟩

set_option maxRecDepth 100000 in
set_option maxHeartbeats 4000000 in
theorem lay_any (w : World) (g : Nat) (s : List UInt8) (q : Pat) (hs : w.heap[g]? = some (.cells #[.string (str s)] 78 (0, 0))) (hq : q.a + q.b.length ≤ 256) (hl : s.length = 256) :
    Calls Tryd.prog 32 #[.pointer (some ⟨g, 0, none⟩), q.v] w fun e w' => e = .returned (.tuple #[]) ∧ w'.heap[g]? = some (.cells #[.string (str (layP s q))] 78 (0, 0)) ∧ Keep (fun j => j = g) w w' := by
  have hlay := lay_str s q
  obtain ⟨i, a, b⟩ := q
  simp only at hq hlay
  simp only [Pat.v]
  have hsz : (str b).size = b.length := str_size b
  have hss : (str s).size = 256 := by rw [str_size]; exact hl
  obtain ⟨T, hT⟩ : ∃ T, T = str (layP s ⟨i, a, b⟩) := ⟨_, rfl⟩
  rw [← hT] at hlay ⊢
  obtain ⟨S, hS⟩ : ∃ S, S = str s := ⟨_, rfl⟩
  rw [← hS] at hlay hss hs
  obtain ⟨U, hU⟩ : ∃ U, U = str b := ⟨_, rfl⟩
  rw [← hU] at hlay hsz ⊢
  obtain ⟨m, hm⟩ : ∃ m, m = a + b.length := ⟨_, rfl⟩
  have hlay1 := hlay 256 hl.symm
  have hlay2 := hlay s.length rfl
  rw [← hm] at hlay1 hlay2
  have hmU : (a : Int) + (U.size : Int) = (m : Int) := by rw [hsz]; omega
  have hmU' : a + U.size = m := by omega
  have hk3 := heap_alloc_new w (.cells #[.int .i64 i, .int .i64 a, .string U] 57)
  have hsg : (w.alloc (.cells #[.int .i64 i, .int .i64 a, .string U] 57)).heap[g]? = some (.cells #[.string S] 78 (0, 0)) := hal hs
  have hne : g ≠ w.heap.size := Nat.ne_of_lt (lt_of_block hs)
  have kp : Keep (fun j => j = g) w (w.alloc (.cells #[.int .i64 i, .int .i64 a, .string U] 57)) := Keep.alloc (Keep.refl _ _) _
  have c3 := blk_cell hk3
  have cg := blk_cell hsg
  have fg := blk_free hsg
  have zg := lt_of_block hsg
  have x1 : (0 : Int) ≤ (a : Int) := by omega
  have x2 : (a : Int) ≤ 256 := by omega
  have x2' : a ≤ 256 := by omega
  have x3 : (m : Int) ≤ 256 := by omega
  have x3' : m ≤ 256 := by omega
  have x4 : ((m : Int)).toNat = m := Int.toNat_natCast m
  have x5 : ((a : Int)).toNat = a := Int.toNat_natCast a
  have i1 : IntKind.i64.wrap ((a : Int) + (U.size : Int)) = (m : Int) := by rw [hmU]; exact IntWalk.i64_in _ (by omega)
  have Hsg := Lib.hid hsg
  have Kp := Lib.hid kp
  clear hT hS hU hlay hsz hk3 hs hl hq hm hsg kp
  go_enter Tryd.func32, Tryd.ntmps32
  go_wp2_with fail
  obtain ⟨w1, hw1⟩ : ∃ w1, w1 = w.alloc (.cells #[.int .i64 i, .int .i64 a, .string U] 57) := ⟨_, rfl⟩
  rw [← hw1] at c3 cg fg zg Hsg Kp ⊢
  clear hw1
  go_region
  go_wp2_with fail
  refine bodyPost_end (v := .tuple #[]) (results_none rfl _ _ _) rfl ⟨rfl, heap_setCell_same _ g 0 _ _ _ Hsg.out, ?_⟩
  exact (Kp.out.setCell (.inl rfl) _).drew

set_option maxRecDepth 100000 in
set_option maxHeartbeats 4000000 in
theorem all_any (w : World) (base : Nat) (v : Value) (l : List Pat) (i : Int) (b : List UInt8) (hown : w.ownsRow base 57 3 v l.length (flatP l)) (hok : ∀ q, q ∈ l → q.ok) (hl : l.length ≤ 1000) (hb : b.length = 256) :
    Calls Tryd.prog 21 #[.string (str b), .int .i64 i, v] w fun e w' => e = .returned (.tuple #[.string (str (layAll i b l)), .bool true]) ∧ Below w.heap.size w w' := by
  have hbs : (str b).size = 256 := by rw [str_size]; exact hb
  have hbs' : ((str b).size : Int) = 256 := by omega
  obtain ⟨la, lc, rfl⟩ := own_slice hown
  have Hown := Lib.hid hown
  have Hok := Lib.hid hok
  have Hlen := Lib.hid (fun j : Nat => layAll_len i (l.take j) b hb (fun q hq => hok q (List.mem_of_mem_take hq)))
  obtain ⟨S, hS⟩ : ∃ S, S = str b := ⟨_, rfl⟩
  have hS0 : str (layAll i b (l.take 0)) = S := by rw [hS]; rfl
  rw [← hS] at hbs hbs' ⊢
  clear hown hok hb hS
  go_enter Tryd.func21, Tryd.ntmps21
  have hk8 := heap_alloc_new w (.cells #[.string S] 78)
  have hb8 := below_al (Below.refl _ w) (.cells #[.string S] 78)
  have H8 : Hid ((w.alloc (.cells #[.string S] 78)).heap[w.heap.size]? = some (.cells #[.string (str (layAll i b (l.take 0)))] 78 (0, 0)) ∧ Below w.heap.size w (w.alloc (.cells #[.string S] 78))) := Lib.hid ⟨by rw [hS0]; exact hk8, hb8⟩
  clear hS0 hk8 hb8
  go_wp2_with fail
  go_loopw [20] (fun u wr => ∃ j : Nat, u = .int .i64 j ∧ j ≤ l.length ∧ Hid (wr.heap[w.heap.size]? = some (.cells #[.string (str (layAll i b (l.take j)))] 78 (0, 0)) ∧ Below w.heap.size w wr)) (fun u _ => l.length - (intOf u).toNat)
  case atStart => exact ⟨0, rfl, Nat.zero_le _, H8⟩
  case round =>
    clear H8
    obtain ⟨j, rfl, hj, hH⟩ := hrel
    by_cases hlt : j < l.length
    · have hrow := own_below Hown.out hH.out.2
      obtain ⟨lb, rfl⟩ : ∃ lb, la = some ⟨lb, 0, none⟩ := by
        rcases Hown.out.2 with ⟨h1, h2⟩ | ⟨g, cap, cur, h1, _⟩
        · exfalso; have := Hown.out.1; rw [flatP_len, h2] at this; simp at this; omega
        · injection h1 with h1 _ _
          exact ⟨g, h1⟩
      obtain ⟨q, hq⟩ : ∃ q, q = l[j] := ⟨_, rfl⟩
      have hc : ∀ r, r < 3 → (flatP l)[j * 3 + r]? = (q.cells)[r]? := fun r hr => by rw [hq]; exact flatP_at hlt r hr
      have c0 := own_at hrow (j * 3) (.int .i64 q.p) (hc 0 (by omega))
      have c1 := own_at hrow (j * 3 + 1) (.int .i64 q.a) (hc 1 (by omega))
      have c2 := own_at hrow (j * 3 + 2) (.string (str q.b)) (hc 2 (by omega))
      have hqo : q.ok := by rw [hq]; exact Hok.out _ (List.getElem_mem _)
      have d1 : decide ((j : Int) < (l.length : Int)) = true := by simp; omega
      have d2 : decide (j < l.length) = true := by simpa using hlt
      have hlt' : (j : Int) < (l.length : Int) := by omega
      have i1 : IntKind.i64.wrap ((j : Int) + 1) = (j : Int) + 1 := IntWalk.i64_in _ (by omega)
      have hzb : lb < wr.heap.size := own_lt hrow lb rfl
      have htk : layAll i b (l.take (j + 1)) = (if q.p = i then layP (layAll i b (l.take j)) q else layAll i b (l.take j)) := by rw [hq]; exact layAll_take hlt
      have hln := Hlen.out j
      have hly := fun W hs => lay_any W w.heap.size (layAll i b (l.take j)) q hs hqo.2.2.2 hln
      have hrt := fun W => pright_yes q W hqo
      obtain ⟨s, hs⟩ : ∃ s, s = layAll i b (l.take j) := ⟨_, rfl⟩
      rw [← hs] at htk hln hly hH
      obtain ⟨p, a, qb⟩ := q
      simp only [Pat.v] at hly hrt
      simp only at c0 c1 c2 htk
      obtain ⟨U, hU⟩ : ∃ U, U = str qb := ⟨_, rfl⟩
      rw [← hU] at hly hrt c2
      have ha7 := below_al (Below.refl _ wr) (.cells #[.int .i64 p, .int .i64 a, .string U] 57)
      have hk7 := heap_alloc_new wr (.cells #[.int .i64 p, .int .i64 a, .string U] 57)
      have ck7 := blk_cell hk7
      have Ha7 := Lib.hid (And.intro hk7 ha7)
      have Htk := Lib.hid htk
      clear hrow hc hqo hs hU hk7 ha7 htk hq
      by_cases hpi : p = i
      · have e1 : (p == i) = true := by simpa using hpi
        have e1' : decide (p = i) = true := by simpa using hpi
        have Hpi := Lib.hid hpi
        clear hpi
        go_wp2_with fail
        with_reducible refine (hrt _).mono ?_
        rintro e w2 ⟨rfl, hb2⟩
        have ck2 := blk_cell (blk_keep Ha7.out.1 hb2)
        have hb72 := below_tr Ha7.out.2 hb2
        have s2 := blk_keep hH.out.1 hb72
        have B2 := Lib.hid (below_base hH.out.2 hH.out.2.size hb72)
        have S2 := Lib.hid s2
        clear ck7 hb2 hb72 s2 c0 c1 c2 hrt
        go_wp2_with fail
        with_reducible refine (hly _ S2.out).mono ?_
        rintro e w3 ⟨rfl, s3, k3⟩
        have B3 := Lib.hid (below_keep B2.out B2.out.size k3 (fun k hk => by rw [hk]; exact Nat.le_refl _))
        have S3 := Lib.hid s3
        clear s3 k3
        go_wp2_with fail
        go_roundw
        case rel => exact ⟨j + 1, by go_num, by omega, Lib.hid ⟨by rw [Htk.out, if_pos Hpi.out]; exact S3.out, B3.out⟩⟩
        case measure => clear i1; simp [intOf]; omega
      · have e1 : (p == i) = false := by simpa using hpi
        have e1' : decide (p = i) = false := by simpa using hpi
        have Hpi := Lib.hid hpi
        clear hpi
        go_wp2_with fail
        with_reducible refine (hrt _).mono ?_
        rintro e w2 ⟨rfl, hb2⟩
        have ck2 := blk_cell (blk_keep Ha7.out.1 hb2)
        have hb72 := below_tr Ha7.out.2 hb2
        have s2 := blk_keep hH.out.1 hb72
        have B2 := Lib.hid (below_base hH.out.2 hH.out.2.size hb72)
        have S2 := Lib.hid s2
        clear ck7 hb2 hb72 s2 c0 c1 c2 hrt
        go_wp2_with fail
        go_roundw
        case rel => exact ⟨j + 1, by go_num, by omega, Lib.hid ⟨by rw [Htk.out, if_neg Hpi.out]; exact S2.out, B2.out⟩⟩
        case measure => clear i1; simp [intOf]; omega
    · obtain rfl : j = l.length := by omega
      rw [List.take_length] at hH
      have c8 := blk_cell hH.out.1
      go_wp2_with fail
      go_ret2
      exact ⟨rfl, hH.out.2⟩
end Go.Proofs.YtibbmmkjienekaaDoor.Gr
