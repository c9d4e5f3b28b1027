/- The contracts of a group's Put, Bytes, Taken. -/
import Derived.Test.YtibbmmkjienekaaDoorGrGet
namespace Go.Proofs.YtibbmmkjienekaaDoor.Gr
open Go.RowKit Go.Proofs.YtibbmmkjienekaaDoor.Mem Go.Proofs.YtibbmmkjienekaaDoor.Pg Go.Proofs.YtibbmmkjienekaaDoor.Kp
set_option linter.unusedSimpArgs false
set_option linter.unusedVariables false

theorem Grp.ne {w : World} {gb mb sb : Nat} {M : Int → Option (List UInt8)} {tk : Int} (h : Grp w gb mb sb M tk) : gb ≠ mb := fun e => by
  have h1 := h.grp
  obtain ⟨D, ks, ⟨es, clock, hb, _⟩, _⟩ := h.map.ex
  rw [e, hb] at h1
  cases h1

set_option maxRecDepth 100000 in
set_option maxHeartbeats 2000000 in
theorem gput_ok (w : World) (gb mb sb : Nat) (M : Int → Option (List UInt8)) (tk i : Int) (p : Pag) (ht : Tab w) (hg : Grp w gb mb sb M tk) (hp : p.ok) (h0 : 0 ≤ i) (h1 : i < 64) :
    Calls Tryd.prog 12 #[.pointer (some ⟨gb, 0, none⟩), .int .i64 i, p.v] w fun e w' => e = .returned (.int .i64 0) ∧ Grp w' gb mb sb (upd M i p.bytes) tk ∧ Keep (fun j => j = mb) w w' := by
  have hput := fun W (k : Tab W) => put_yes p W k hp
  have hlen := Pag.bytes_len hp
  have d0 : decide (i < 0) = false := by simp; omega
  have d1 : decide (64 ≤ i) = false := by simp; omega
  obtain ⟨b, hb⟩ : ∃ b, b = p.bytes := ⟨_, rfl⟩
  rw [← hb] at hput hlen ⊢
  obtain ⟨k, d, x, l⟩ := p
  simp only [Pag.v] at hput ⊢
  obtain ⟨T, hT⟩ : ∃ T, T = str l := ⟨_, rfl⟩
  obtain ⟨S, hS⟩ : ∃ S, S = str b := ⟨_, rfl⟩
  rw [← hT, ← hS] at hput
  rw [← hT]
  have HT := Lib.hid (ht.alloc (.cells #[.int .i64 k, .int .i64 d, .int .i64 x, .string T] 23))
  have hb1 := below_al (Below.refl _ w) (.cells #[.int .i64 k, .int .i64 d, .int .i64 x, .string T] 23)
  have k5 := heap_alloc_new w (.cells #[.int .i64 k, .int .i64 d, .int .i64 x, .string T] 23)
  have c5 := blk_cell k5
  have Hg1 := Lib.hid (hg.below hb1)
  have HB := Lib.hid hb1
  have Hi := Lib.hid (And.intro h0 h1)
  have HS := Lib.hid hS
  have Hl := Lib.hid hlen
  have Hne := Lib.hid hg.ne
  clear ht hg hp h0 h1 hb hT hS hb1 k5 hlen
  go_enter Tryd.func12, Tryd.ntmps12
  go_wp2_with fail
  with_reducible refine (hput _ HT.out).mono ?_
  rintro e w2 ⟨rfl, hb2⟩
  have hg2 := Hg1.out.below hb2
  have cg := blk_cell hg2.grp
  have zg := hg2.lt1
  obtain ⟨w3, hrun, hmap, hgr⟩ := hg2.map.put i Hi.out.1 Hi.out.2 b (by rw [Hl.out]; omega)
  rw [← HS.out] at hrun
  have hg3 : Grp w3 gb mb sb (upd M i b) tk := ⟨(hgr.block _ zg (fun e => Hne.out (Option.some.inj e))).trans hg2.grp, hmap⟩
  have hk3 : Keep (fun j => j = mb) w w3 := (Keep.of_below (below_tr HB.out hb2)).trans (Keep.grown hgr (fun j e => (Option.some.inj e).symm))
  have Hg3 := Lib.hid hg3
  have Hk3 := Lib.hid hk3
  clear hb2 hg2 hmap hgr hg3 hk3 c5
  go_wp2_with fail
  go_ret
  exact ⟨rfl, Hg3.out, Hk3.out⟩

set_option maxRecDepth 100000 in
set_option maxHeartbeats 2000000 in
theorem gput_no (w : World) (gb : Nat) (i : Int) (p : Pag) (ht : Tab w) (h : ¬ (p.ok ∧ 0 ≤ i ∧ i < 64)) :
    Calls Tryd.prog 12 #[.pointer (some ⟨gb, 0, none⟩), .int .i64 i, p.v] w fun e w' => e = .returned (.int .i64 1) ∧ Below w.heap.size w w' := by
  have hy := fun W (k : Tab W) => put_yes p W k
  have hn := fun W (k : Tab W) => put_no p W k
  have h' := h
  obtain ⟨okp, hokp⟩ : ∃ okp, okp = p.ok := ⟨_, rfl⟩
  rw [← hokp] at h hy hn
  obtain ⟨k, d, x, l⟩ := p
  simp only [Pag.v] at hy hn ⊢
  obtain ⟨T, hT⟩ : ∃ T, T = str l := ⟨_, rfl⟩
  obtain ⟨S, hS⟩ : ∃ S, S = str (Pag.bytes ⟨k, d, x, l⟩) := ⟨_, rfl⟩
  rw [← hT, ← hS] at hy
  rw [← hT] at hn ⊢
  have HT := Lib.hid (ht.alloc (.cells #[.int .i64 k, .int .i64 d, .int .i64 x, .string T] 23))
  have hb1 := below_al (Below.refl _ w) (.cells #[.int .i64 k, .int .i64 d, .int .i64 x, .string T] 23)
  have c5 := blk_cell (heap_alloc_new w (.cells #[.int .i64 k, .int .i64 d, .int .i64 x, .string T] 23))
  have HB := Lib.hid hb1
  clear ht hT hS hb1 h' hokp
  by_cases hk : okp
  · have hy' := fun W t => hy W t hk
    clear hn hy
    by_cases h0 : i < 0
    · have d0 : decide (i < 0) = true := by simpa using h0
      clear h hk h0
      go_enter Tryd.func12, Tryd.ntmps12
      go_wp2_with fail
      with_reducible refine (hy' _ HT.out).mono ?_
      rintro e w2 ⟨rfl, hb2⟩
      have hbb := below_tr HB.out hb2
      go_wp2_with fail
      go_ret
      exact ⟨rfl, hbb⟩
    · have d0 : decide (i < 0) = false := by simpa using h0
      have h64 : 64 ≤ i := by
        rcases Int.lt_or_le i 64 with h64 | h64
        · exact absurd ⟨hk, by omega, h64⟩ h
        · exact h64
      have d1 : decide (64 ≤ i) = true := by simpa using h64
      clear h hk h0 h64
      go_enter Tryd.func12, Tryd.ntmps12
      go_wp2_with fail
      with_reducible refine (hy' _ HT.out).mono ?_
      rintro e w2 ⟨rfl, hb2⟩
      have hbb := below_tr HB.out hb2
      go_wp2_with fail
      go_ret
      exact ⟨rfl, hbb⟩
  · have hn' := fun W t => hn W t hk
    clear hn hy h hk
    go_enter Tryd.func12, Tryd.ntmps12
    go_wp2_with fail
    with_reducible refine (hn' _ HT.out).mono ?_
    rintro e w2 ⟨rfl, hb2⟩
    have hbb := below_tr HB.out hb2
    go_wp2_with fail
    go_ret
    exact ⟨rfl, hbb⟩

set_option maxRecDepth 100000 in
theorem gbytes_any (w : World) (gb mb sb : Nat) (M : Int → Option (List UInt8)) (tk i : Int) (hi : (Lit.int .i64 i).wf = true) (hg : Grp w gb mb sb M tk) :
    Calls Tryd.prog 14 #[.pointer (some ⟨gb, 0, none⟩), .int .i64 i] w fun e w' => e = .returned (.tuple #[.string (str ((M i).getD [])), .bool (M i).isSome]) ∧ w' = w := by
  have cg := blk_cell hg.grp
  have zg := hg.lt1
  have hrun := hg.map.look i hi
  obtain ⟨S, hS⟩ : ∃ S, S = str ((M i).getD []) := ⟨_, rfl⟩
  rw [← hS] at hrun ⊢
  generalize (M i).isSome = y at *
  clear hg hS
  go_enter Tryd.func14, Tryd.ntmps14
  go_wp2_with fail
  go_ret2
  exact ⟨rfl, rfl⟩

set_option maxRecDepth 100000 in
theorem gtaken_any (w : World) (gb mb sb : Nat) (M : Int → Option (List UInt8)) (tk : Int) (hg : Grp w gb mb sb M tk) :
    Calls Tryd.prog 18 #[.pointer (some ⟨gb, 0, none⟩)] w fun e w' => e = .returned (.int .i64 tk) ∧ w' = w := by
  have cg := blk_cell hg.grp
  have zg := hg.lt1
  clear hg
  go_enter Tryd.func18, Tryd.ntmps18
  go_wp2_with fail
  go_ret
  exact ⟨rfl, rfl⟩
end Go.Proofs.YtibbmmkjienekaaDoor.Gr
