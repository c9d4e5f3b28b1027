/- Lemmas of the claim, in their order:
- The contracts of hash's bucket, put.
- The contracts of hash's find, cells.
-/
import Derived.Test.YtijhamllnnilbaaGreatDoorU20
set_option linter.unusedVariables false
set_option linter.unusedSimpArgs false
namespace Go.Proofs.YtijhamllnnilbaaGreatDoor.Ha
open Go.RowKit Go.Proofs.YtijhamllnnilbaaGreatDoor.Mem Go.Proofs.YtijhamllnnilbaaGreatDoor.Pg Go.Proofs.YtijhamllnnilbaaGreatDoor.Kp Go.Proofs.YtijhamllnnilbaaGreatDoor.Sp Go.Proofs.YtijhamllnnilbaaGreatDoor.Gr
set_option linter.unusedSimpArgs false
set_option linter.unusedVariables false
theorem Ch.mono {C C' : Nat} {w : World} {cb gb : Nat} {L : List (Nat × Pag)} (h : Ch C w cb gb L) (hC : C' ≤ C) : Ch C' w cb gb L := by
  obtain ⟨nv, pv, h1, h2, h3, h4⟩ := h.ex
  exact ⟨⟨nv, pv, h1, row_mono h2 hC, row_mono h3 hC, h4⟩, Nat.le_trans hC h.base⟩
abbrev tbO (gb D : Nat) (S : ByteArray) : Obj := .cells #[.pointer (some ⟨gb, 0, none⟩), .int .i64 1, .int .i64 (D : Int), .int .i64 0, .string S] 166
set_option maxRecDepth 100000 in
set_option maxHeartbeats 4000000 in
theorem bucket_ok (w0 w : World) (gb mb sb qb c n D tb : Nat) (pg : Nat → Pag) (tk : Int) (t : Tri) (key : List UInt8) (h : GV w0 w gb mb sb qb c n pg tk) (T : Tb n pg D t) (hk : key.length ≤ 1000)
    (htb : w.heap[tb]? = some (tbO gb D (Dr.bdy (entsF D t)))) (hge : w0.heap.size ≤ tb) :
    Calls Tryz.prog 51 #[.pointer (some ⟨tb, 0, none⟩), .string (str key)] w fun e w' => ∃ cb, e = .returned (.tuple #[.pointer (some ⟨cb, 0, none⟩), .int .i64 0]) ∧
      Ch w.heap.size w' cb gb ((t.at' (sumF key)).pags (t.dep (sumF key))) ∧ GV w0 w' gb mb sb qb c n pg tk ∧ Rk w0.heap.size w w' := by
  have h64 := h.n64
  have hD := T.d5
  have hbits := fun W => bits_any key D (by omega) W (by omega)
  have hb2 : bitsF key D < 2 ^ D := Nat.mod_lt _ (Nat.two_pow_pos D)
  have hat := fun W => Dr.good_at (T.good h64) (bitsF key D) (by rw [entsF_len]; exact hb2) W
  have hent : (entsF D t)[bitsF key D]'(by rw [entsF_len]; exact hb2) = ((t.at' (sumF key)).n : Int) := by
    have h1 := entsF_get D t (bitsF key D) hb2
    rw [List.getElem?_eq_getElem (by rw [entsF_len]; exact hb2)] at h1
    injection h1 with h1
    rw [h1]
    unfold bitsF
    rw [(t.at_mod (sumF key) D (Nat.le_trans (t.dep_le _) T.hi)).1]
  have hgd : (entsF D t).getD (bitsF key D) 0 = ((t.at' (sumF key)).n : Int) := by
    rw [List.getD_eq_getElem?_getD, List.getElem?_eq_getElem (by rw [entsF_len]; exact hb2), Option.getD_some, hent]
  rw [hgd] at hat
  have hread := fun W (hW : GV w0 W gb mb sb qb c n pg tk) => read_ok w0 W gb mb sb qb c n (t.dep (sumF key)) pg tk (t.at' (sumF key)) hW (T.chn h64 (sumF key))
  obtain ⟨S, hS⟩ : ∃ S, S = Dr.bdy (entsF D t) := ⟨_, rfl⟩
  rw [← hS] at htb hat
  obtain ⟨U, hU⟩ : ∃ U, U = str key := ⟨_, rfl⟩
  rw [← hU] at hbits ⊢
  obtain ⟨L, hL⟩ : ∃ L, L = (t.at' (sumF key)).pags (t.dep (sumF key)) := ⟨_, rfl⟩
  rw [← hL] at hread ⊢
  generalize (t.at' (sumF key)).n = bn at *
  generalize bitsF key D = bk at *
  have H := Lib.hid h
  have Htb := Lib.hid htb
  have Hread := Lib.hid hread
  clear h T hgd hent hS hU hL htb hread hb2
  go_enter Tryz.func51, Tryz.ntmps51
  go_wp2_with fail
  refine wp_region_held_drew (S := (fun W => W.heap[tb]? = some (tbO gb D S) ∧ GV w0 W gb mb sb qb c n pg tk ∧ Rk w0.heap.size w W)) (by kernel_rfl) (⟨Htb.out, H.out.rk (below_dr (Below.refl _ _)), .of_below (below_dr (Below.refl _ _))⟩) (fun hHeld => ?_)
  refine Ra.W 0 ?_ ?_ hHeld ?_
  rotate_left
  · intro wq hSw
    go_simp
    try with_reducible rfl
  try simp only [Act.put, List.getElem_toArray, List.getElem_cons_succ, List.getElem_cons_zero, List.setIfInBounds_toArray, List.set_cons_zero, List.set_cons_succ]
  refine Ra.W 1 ?_ ?_ hHeld ?_
  rotate_left
  · intro wq hSw
    go_simp
    try with_reducible rfl
  try simp only [Act.put, List.getElem_toArray, List.getElem_cons_succ, List.getElem_cons_zero, List.setIfInBounds_toArray, List.set_cons_zero, List.set_cons_succ]
  refine Ra.W 2 ?_ ?_ hHeld ?_
  rotate_left
  · intro wq hSw
    go_simp
    try with_reducible rfl
  try simp only [Act.put, List.getElem_toArray, List.getElem_cons_succ, List.getElem_cons_zero, List.setIfInBounds_toArray, List.set_cons_zero, List.set_cons_succ]
  refine Ra.W 3 ?_ ?_ hHeld ?_
  rotate_left
  · intro wq hSw
    have hSc := blk_cell hSw.1; have hSl := lt_of_block hSw.1
    go_simp
    try with_reducible rfl
  try simp only [Act.put, List.getElem_toArray, List.getElem_cons_succ, List.getElem_cons_zero, List.setIfInBounds_toArray, List.set_cons_zero, List.set_cons_succ]
  refine Ra.W 4 ?_ ?_ hHeld ?_
  rotate_left
  · intro wq hSw
    go_simp
    try with_reducible rfl
  try simp only [Act.put, List.getElem_toArray, List.getElem_cons_succ, List.getElem_cons_zero, List.setIfInBounds_toArray, List.set_cons_zero, List.set_cons_succ]
  refine Ra.W 5 ?_ ?_ hHeld ?_
  rotate_left
  · intro wq hSw
    go_simp
    try with_reducible rfl
  try simp only [Act.put, List.getElem_toArray, List.getElem_cons_succ, List.getElem_cons_zero, List.setIfInBounds_toArray, List.set_cons_zero, List.set_cons_succ]
  refine Ra.W 6 ?_ ?_ hHeld ?_
  rotate_left
  · intro wq hSw
    go_simp
    try with_reducible rfl
  try simp only [Act.put, List.getElem_toArray, List.getElem_cons_succ, List.getElem_cons_zero, List.setIfInBounds_toArray, List.set_cons_zero, List.set_cons_succ]
  refine Ra.W 7 ?_ ?_ hHeld ?_
  rotate_left
  · intro wq hSw
    go_simp
    try with_reducible rfl
  try simp only [Act.put, List.getElem_toArray, List.getElem_cons_succ, List.getElem_cons_zero, List.setIfInBounds_toArray, List.set_cons_zero, List.set_cons_succ]
  refine Ra.W 8 ?_ ?_ hHeld ?_
  rotate_left
  · intro wq hSw
    go_simp
    try with_reducible rfl
  try simp only [Act.put, List.getElem_toArray, List.getElem_cons_succ, List.getElem_cons_zero, List.setIfInBounds_toArray, List.set_cons_zero, List.set_cons_succ]
  refine Ra.W 9 ?_ ?_ hHeld ?_
  rotate_left
  · intro wq hSw
    have hSc := blk_cell hSw.1; have hSl := lt_of_block hSw.1
    go_simp
    try with_reducible rfl
  try simp only [Act.put, List.getElem_toArray, List.getElem_cons_succ, List.getElem_cons_zero, List.setIfInBounds_toArray, List.set_cons_zero, List.set_cons_succ]
  refine wpAnyH_ready (rs := [10]) (by kernel_rfl) (by simp) ?_
  refine AllReadyH.cons rfl (fun K hK => ?_) AllReadyH.nil
  rw [if_pos (by kernel_rfl)]
  go_simp
  (with_reducible refine (hbits _).mono ?_)
  rintro e w1 ⟨rfl, hb1⟩
  go_simp
  refine hK.out _ _ (⟨blk_keep hHeld.1 hb1, hHeld.2.1.rk hb1, hHeld.2.2.below hb1⟩) (fun hHeld2 => ?_)
  clear hK K
  try clear hHeld
  have hHeld := hHeld2
  try clear hHeld2
  refine wpAnyH_ready (rs := [11]) (by kernel_rfl) (by simp) ?_
  refine AllReadyH.cons rfl (fun K hK => ?_) AllReadyH.nil
  rw [if_pos (by kernel_rfl)]
  go_simp
  (with_reducible refine (hat _).mono ?_)
  rintro e w2 ⟨rfl, hb2⟩
  go_simp
  refine hK.out _ _ (⟨blk_keep hHeld.1 hb2, hHeld.2.1.rk hb2, hHeld.2.2.below hb2⟩) (fun hHeld2 => ?_)
  clear hK K
  try clear hHeld
  have hHeld := hHeld2
  try clear hHeld2
  refine Ra.W 12 ?_ ?_ hHeld ?_
  rotate_left
  · intro wq hSw
    go_simp
    try with_reducible rfl
  try simp only [Act.put, List.getElem_toArray, List.getElem_cons_succ, List.getElem_cons_zero, List.setIfInBounds_toArray, List.set_cons_zero, List.set_cons_succ]
  refine Ra.W 13 ?_ ?_ hHeld ?_
  rotate_left
  · intro wq hSw
    go_simp
    try with_reducible rfl
  try simp only [Act.put, List.getElem_toArray, List.getElem_cons_succ, List.getElem_cons_zero, List.setIfInBounds_toArray, List.set_cons_zero, List.set_cons_succ]
  refine Ra.W 14 ?_ ?_ hHeld ?_
  rotate_left
  · intro wq hSw
    go_simp
    try with_reducible rfl
  try simp only [Act.put, List.getElem_toArray, List.getElem_cons_succ, List.getElem_cons_zero, List.setIfInBounds_toArray, List.set_cons_zero, List.set_cons_succ]
  refine Ra.W 15 ?_ ?_ hHeld ?_
  rotate_left
  · intro wq hSw
    go_simp
    try with_reducible rfl
  try simp only [Act.put, List.getElem_toArray, List.getElem_cons_succ, List.getElem_cons_zero, List.setIfInBounds_toArray, List.set_cons_zero, List.set_cons_succ]
  refine Ra.W 16 ?_ ?_ hHeld ?_
  rotate_left
  · intro wq hSw
    go_simp
    try with_reducible rfl
  try simp only [Act.put, List.getElem_toArray, List.getElem_cons_succ, List.getElem_cons_zero, List.setIfInBounds_toArray, List.set_cons_zero, List.set_cons_succ]
  refine wpAnyH_done (by kernel_rfl) ?_ _
  have cc := blk_cell hHeld.1
  have lc := lt_of_block hHeld.1
  have HH := Lib.hid hHeld.2
  clear hHeld hb1 hb2 hbits hat
  go_wp2_with fail
  with_reducible refine (Hread.out _ HH.out.1).mono ?_
  rintro e w3 ⟨cb, rfl, hch, g3, r3⟩
  have C3 : Hid (Ch w.heap.size w3 cb gb L) := Lib.hid (hch.mono HH.out.2.size)
  have G3 := Lib.hid g3
  have R3 := Lib.hid (HH.out.2.trans r3)
  clear hch g3 r3 cc lc
  go_wp2_with fail
  go_ret2
  exact ⟨cb, rfl, C3.out, G3.out, R3.out⟩
end Go.Proofs.YtijhamllnnilbaaGreatDoor.Ha
namespace Go.Proofs.YtijhamllnnilbaaGreatDoor.Ha
open Go.RowKit Go.Proofs.YtijhamllnnilbaaGreatDoor.Mem Go.Proofs.YtijhamllnnilbaaGreatDoor.Pg Go.Proofs.YtijhamllnnilbaaGreatDoor.Kp Go.Proofs.YtijhamllnnilbaaGreatDoor.Sp Go.Proofs.YtijhamllnnilbaaGreatDoor.Gr
set_option linter.unusedSimpArgs false
set_option linter.unusedVariables false
/-- A bucket's pages, and their cells. -/
structure BkL (L : List (Nat × Pag)) (ps : List (Nat × List Cel)) : Prop where
  len : L.length = ps.length
  at' : ∀ (i m : Nat) (p : Pag), L[i]? = some (m, p) → ∃ cs, ps[i]? = some (m, cs) ∧ Bkt p cs
theorem bkL_pags (k d : Int) (hk : k = 3 ∨ k = 4) (ps : List (Nat × List Cel)) (hf : ∀ p, p ∈ ps → Fits p.2) : BkL (pagsF k d ps) ps := by
  refine ⟨pagsF_len k d ps, fun i m p hi => ?_⟩
  have hlt := (List.getElem?_eq_some_iff.1 hi).1
  rw [pagsF_len] at hlt
  rw [pagsF_get ps k d i hlt] at hi
  injection hi with hi
  injection hi with h1 h2
  subst h1 h2
  refine ⟨ps[i].2, List.getElem?_eq_getElem hlt, ?_, rfl, hf _ (List.getElem_mem hlt)⟩
  simp only
  split
  · exact hk
  · exact .inr rfl
/-- What a bucket is in memory, cell by cell. -/
structure ChF (C : Nat) (w : World) (cb gb nb pb cn cp : Nat) (L : List (Nat × Pag)) : Prop where
  blk : w.heap[cb]? = some (chO gb (.slice (some ⟨nb, 0, none⟩) L.length cn) (.slice (some ⟨pb, 0, none⟩) L.length cp))
  cbn : cb ≠ nb
  cbp : cb ≠ pb
  nC : C ≤ nb
  pC : C ≤ pb
  nl : nb < w.heap.size
  pl : pb < w.heap.size
  num : ∀ (i m : Nat) (p : Pag), L[i]? = some (m, p) → w.cell? ⟨nb, i, none⟩ = some (.int .i64 (m : Int))
  pag : ∀ (i m : Nat) (p : Pag), L[i]? = some (m, p) → w.cell? ⟨pb, i * 4, none⟩ = some (.int .i64 p.k) ∧ w.cell? ⟨pb, i * 4 + 1, none⟩ = some (.int .i64 p.d) ∧ w.cell? ⟨pb, i * 4 + 2, none⟩ = some (.int .i64 p.x) ∧ w.cell? ⟨pb, i * 4 + 3, none⟩ = some (.string (str p.l))
theorem Ch.form {C : Nat} {w : World} {cb gb : Nat} {L : List (Nat × Pag)} (h : Ch C w cb gb L) (hL : 0 < L.length) : ∃ nb pb cn cp, ChF C w cb gb nb pb cn cp L := by
  obtain ⟨nv, pv, hch, hnr, hpr, hn1, hn2, hn3⟩ := h.ex
  have hform : ∀ (v : Value) (T : TypeId) (k : Nat) (xs : List Value), w.ownsRow C T k v L.length xs → ∃ g cp, v = .slice (some ⟨g, 0, none⟩) L.length cp := fun v T k xs hr => by
    rcases hr.2 with ⟨_, h0⟩ | ⟨g, cp, _, h0, _⟩
    · omega
    · exact ⟨g, cp, h0⟩
  obtain ⟨nb, cn, rfl⟩ := hform _ _ _ _ hnr
  obtain ⟨pb, cp, rfl⟩ := hform _ _ _ _ hpr
  refine ⟨nb, pb, cn, cp, hch, fun e => hn1 (by rw [e]; rfl), fun e => hn2 (by rw [e]; rfl), own_base hnr nb rfl, own_base hpr pb rfl, own_lt hnr nb rfl, own_lt hpr pb rfl, fun i m p hi => ?_, fun i m p hi => ?_⟩
  · exact own_at hnr i (.int .i64 (m : Int)) (by rw [natV, List.getElem?_map, List.getElem?_map, hi]; rfl)
  · have hil := (List.getElem?_eq_some_iff.1 hi).1
    have hil2 : i < (L.map (·.2)).length := by rw [List.length_map]; exact hil
    have he : (L.map (·.2))[i] = p := by
      have := (List.getElem?_eq_some_iff.1 hi).2
      rw [List.getElem_map, this]
    have pc := fun r (hr : r < 4) (u : Value) (hu : (pcells p)[r]? = some u) => own_at hpr (i * 4 + r) u ((flatP_at hil2 r hr).trans (by rw [he]; exact hu))
    exact ⟨pc 0 (by omega) _ rfl, pc 1 (by omega) _ rfl, pc 2 (by omega) _ rfl, pc 3 (by omega) _ rfl⟩
theorem ChF.below {C : Nat} {w w' : World} {cb gb nb pb cn cp : Nat} {L : List (Nat × Pag)} (h : ChF C w cb gb nb pb cn cp L) (k : Below w.heap.size w w') : ChF C w' cb gb nb pb cn cp L :=
  ⟨blk_keep h.blk k, h.cbn, h.cbp, h.nC, h.pC, Nat.lt_of_lt_of_le h.nl k.size, Nat.lt_of_lt_of_le h.pl k.size, fun i m p hi => (k.cell (p := ⟨nb, i, none⟩) h.nl).trans (h.num i m p hi), fun i m p hi =>
    have a := h.pag i m p hi
    ⟨(k.cell (p := ⟨pb, i * 4, none⟩) h.pl).trans a.1, (k.cell (p := ⟨pb, i * 4 + 1, none⟩) h.pl).trans a.2.1, (k.cell (p := ⟨pb, i * 4 + 2, none⟩) h.pl).trans a.2.2.1, (k.cell (p := ⟨pb, i * 4 + 3, none⟩) h.pl).trans a.2.2.2⟩⟩
def FindPost (k : List UInt8) (ps : List (Nat × List Cel)) (e : Ending) : Prop :=
  (∃ j m cs, ps[j]? = some (m, cs) ∧ has k cs ∧ e = .returned (.tuple #[.int .i64 (j : Nat), (celAt k cs).v])) ∨ ((∀ p, p ∈ ps → ¬ has k p.2) ∧ e = .returned (.tuple #[.int .i64 (-1), zcV]))
set_option maxRecDepth 100000 in
set_option maxHeartbeats 4000000 in
theorem cfind_any (w : World) (C cb gb : Nat) (L : List (Nat × Pag)) (ps : List (Nat × List Cel)) (k : List UInt8) (hc : Ch C w cb gb L) (hb : BkL L ps) (hpos : 0 < L.length) (hL : L.length ≤ 1000) :
    Calls Tryz.prog 52 #[.pointer (some ⟨cb, 0, none⟩), .string (str k)] w fun e w' => FindPost k ps e ∧ Below w.heap.size w w' := by
  obtain ⟨nb, pb, cn, cp, hf⟩ := hc.form hpos
  have hlen := hb.len
  have Hyes := fun p cs (hp : Bkt p cs) (h : has k cs) W => find_yes p cs k hp h W
  have Hno := fun p cs (hp : Bkt p cs) (h : ¬ has k cs) W => find_no p cs k hp h W
  obtain ⟨U, hU⟩ : ∃ U, U = str k := ⟨_, rfl⟩
  rw [← hU] at Hyes Hno ⊢
  have HY := Lib.hid Hyes
  have HN := Lib.hid Hno
  have HB := Lib.hid hb
  have F0 := Lib.hid (hf.below (below_al (Below.refl _ w) zcO))
  have Z0 := Lib.hid (heap_alloc_new w zcO)
  have B0 := Lib.hid (below_al (Below.refl _ w) zcO)
  have N0 : Hid (∀ i, i < 0 → ∀ m cs, ps[i]? = some (m, cs) → ¬ has k cs) := Lib.hid (fun i h => absurd h (Nat.not_lt_zero i))
  have cc := blk_cell F0.out.blk
  have lc := lt_of_block F0.out.blk
  clear Hyes Hno hU hc hb hf
  go_enter Tryz.func52, Tryz.ntmps52
  go_wp2_with fail
  clear cc lc
  go_loopw [15] (fun i wr => ∃ j : Nat, i = .int .i64 j ∧ j ≤ L.length ∧ Hid (ChF C wr cb gb nb pb cn cp L) ∧ Hid (wr.heap[w.heap.size]? = some zcO) ∧ Hid (Below w.heap.size w wr) ∧ Hid (∀ i, i < j → ∀ m cs, ps[i]? = some (m, cs) → ¬ has k cs)) (fun i _ => L.length - (intOf i).toNat)
  case atStart => exact ⟨0, rfl, Nat.zero_le _, F0, Z0, B0, N0⟩
  case round =>
    clear F0 Z0 B0 N0
    obtain ⟨j, rfl, hj, F1, Z1, B1, N1⟩ := hrel
    by_cases hlt : j < L.length
    · obtain ⟨⟨m, p⟩, hLj⟩ : ∃ q, L[j]? = some q := ⟨_, List.getElem?_eq_getElem hlt⟩
      obtain ⟨cs, hpj, hbk⟩ := HB.out.at' j m p hLj
      have hY := fun h W => HY.out p cs hbk h W
      have hN := fun h W => HN.out p cs hbk h W
      obtain ⟨c0, c1, c2, c3⟩ := F1.out.pag j m p hLj
      have lp := F1.out.pl
      obtain ⟨pk, pd, px, pl⟩ := p
      simp only [Pag.v] at hY hN
      simp only at c0 c1 c2 c3
      obtain ⟨S, hS⟩ : ∃ S, S = str pl := ⟨_, rfl⟩
      rw [← hS] at hY hN c3
      have d1 : decide ((j : Int) < (L.length : Int)) = true := by simpa using hlt
      have hlt' : (j : Int) < (L.length : Int) := by omega
      have i1 : IntKind.i64.wrap ((j : Int) + 1) = (j : Int) + 1 := IntWalk.i64_in _ (by omega)
      have pb1 := heap_alloc_new wr (pagO pk pd px S)
      have cb1 := blk_cell pb1
      have F2 := Lib.hid (F1.out.below (below_al (Below.refl _ wr) (pagO pk pd px S)))
      have Z2 := Lib.hid (hal (o := pagO pk pd px S) Z1.out)
      have B2 := Lib.hid (below_al B1.out (pagO pk pd px S))
      have HJ := Lib.hid hpj
      clear hLj hpj hbk hS pb1 F1 Z1 B1
      by_cases hh : has k cs
      · have hY' := hY hh
        obtain ⟨x, hx⟩ : ∃ x, x = celAt k cs := ⟨_, rfl⟩
        rw [← hx] at hY'
        have HX := Lib.hid hx
        have HH := Lib.hid hh
        obtain ⟨xk, xv, xb, xz⟩ := x
        simp only [Cel.v] at hY'
        clear hY hN hx hh
        go_wp2_with fail
        with_reducible refine (hY' _).mono ?_
        rintro e w2 ⟨rfl, hb2⟩
        have xb2 := heap_alloc_new w2 (celO (str xk) (str xv) xb xz)
        have cx := blk_cell xb2
        have z3 := hal (o := celO (str xk) (str xv) xb xz) (blk_keep Z2.out hb2)
        have cz3 := blk_cell z3
        have fz3 := blk_free z3
        have lz3 := lt_of_block z3
        have B3 := Lib.hid (below_al (below_base B2.out B2.out.size hb2) (celO (str xk) (str xv) xb xz))
        have zf := blk_cell (set4_same z3 (.string (str xk)) (.string (str xv)) (.int .i64 xb) (.int .i64 xz))
        clear hb2 z3 B2 hY' c0 c1 c2 c3 cb1 F2 Z2
        go_wp2_with fail
        refine Ra.wp_region_A (S := (fun W => W.heap[w2.heap.size]? = some (celO (str xk) (str xv) xb xz))) [1, 2] (by kernel_rfl) (xb2) (fun hHeld => ?_)
        refine Ra.WT 0 ?_ ?_ ?_
        rotate_left
        · intro wq hSw
          go_simp
          try with_reducible rfl
        try simp only [Act.put, List.getElem_toArray, List.getElem_cons_succ, List.getElem_cons_zero, List.setIfInBounds_toArray, List.set_cons_zero, List.set_cons_succ]
        refine Ra.WA 1 ?_ ?_ hHeld ?_
        rotate_left
        · intro wq hSw
          have hSc := blk_cell hSw; have hSl := lt_of_block hSw
          go_simp
          try with_reducible rfl
        try simp only [Act.put, List.getElem_toArray, List.getElem_cons_succ, List.getElem_cons_zero, List.setIfInBounds_toArray, List.set_cons_zero, List.set_cons_succ]
        refine Ra.WA 2 ?_ ?_ hHeld ?_
        rotate_left
        · intro wq hSw
          go_simp
          try with_reducible rfl
        try simp only [Act.put, List.getElem_toArray, List.getElem_cons_succ, List.getElem_cons_zero, List.setIfInBounds_toArray, List.set_cons_zero, List.set_cons_succ]
        refine Ra.wpA_ready (rs := [3]) (by kernel_rfl) (by simp) ?_
        refine Ra.AllReadyA.late rfl rfl (fun K hK => ?_) Ra.AllReadyA.nil
        rw [if_pos (by kernel_rfl)]
        go_simp
        skip
        refine hK.out _ _ (trivial) (fun hHeld2 => ?_)
        clear hK K
        try clear hHeld
        have hHeld := hHeld2
        try clear hHeld2
        refine Ra.wpA_done (by kernel_rfl) ?_ _
        clear xb2 cx cz3 fz3
        go_wp2_with fail
        refine bodyPost_ret (v := .tuple #[.int .i64 (j : Nat), .agg #[.string (str xk), .string (str xv), .int .i64 xb, .int .i64 xz]]) (by simp [results, Tryz.results52, go_sem, zf]) rfl ⟨.inl ⟨j, m, cs, HJ.out, HH.out, by rw [← HX.out]; rfl⟩, (below_set4 B3.out (Nat.le_refl w.heap.size) (.string (str xk)) (.string (str xv)) (.int .i64 xb) (.int .i64 xz)).drew⟩
      · have hN' := hN hh
        have NN : Hid (∀ i, i < j + 1 → ∀ m cs, ps[i]? = some (m, cs) → ¬ has k cs) := Lib.hid (fun i hi m' cs' h => by
          rcases Nat.lt_or_eq_of_le (Nat.le_of_lt_succ hi) with h1 | h1
          · exact N1.out i h1 m' cs' h
          · subst h1
            rw [HJ.out] at h
            injection h with h
            injection h with _ h
            rw [← h]; exact hh)
        clear hY hN hh
        go_wp2_with fail
        with_reducible refine (hN' _).mono ?_
        rintro e w2 ⟨rfl, hb2⟩
        have F3 := Lib.hid ((F2.out.below hb2).below (below_al (Below.refl _ w2) zcO))
        have Z3 := Lib.hid (hal (o := zcO) (blk_keep Z2.out hb2))
        have B3 := Lib.hid (below_al (below_base B2.out B2.out.size hb2) zcO)
        clear hb2 B2 hN' c0 c1 c2 c3 cb1 F2 Z2 N1
        go_wp2_with fail
        refine ⟨⟨j + 1, by simp, by omega, F3, Z3, B3, NN⟩, ?_⟩
        clear i1
        simp [intOf]; omega
    · obtain rfl : j = L.length := by omega
      have cz3 := blk_cell Z1.out
      have fz3 := blk_free Z1.out
      have lz3 := lt_of_block Z1.out
      have zf := blk_cell (set4_same Z1.out (.string ⟨#[]⟩) (.string ⟨#[]⟩) (.int .i64 0) (.int .i64 0))
      have BF := Lib.hid (below_set4 B1.out (Nat.le_refl w.heap.size) (.string ⟨#[]⟩) (.string ⟨#[]⟩) (.int .i64 0) (.int .i64 0))
      have hnone : Hid (∀ p, p ∈ ps → ¬ has k p.2) := Lib.hid (fun p hp => by
        obtain ⟨i, hi, e⟩ := List.getElem_of_mem hp
        exact N1.out i (by omega) p.1 p.2 (by rw [List.getElem?_eq_getElem hi, e]))
      go_wp2_with fail
      refine bodyPost_ret (v := .tuple #[.int .i64 (-1), zcV]) (by simp [results, Tryz.results52, go_sem, zf]) rfl ⟨.inr ⟨hnone.out, rfl⟩, BF.out⟩
theorem cellsP_step (ps : List (Nat × List Cel)) (j : Nat) (hj : j < ps.length) : cellsP (ps.take (j + 1)) = cellsP (ps.take j) ++ (ps[j]).2 := by
  rw [List.take_succ_eq_append_getElem hj, cellsP_append]; simp [cellsP]
theorem cellsP_le (ps : List (Nat × List Cel)) (hf : ∀ p, p ∈ ps → p.2.length ≤ 59) : (cellsP ps).length ≤ ps.length * 59 := by
  induction ps with
  | nil => simp [cellsP]
  | cons p r ih =>
    rw [cellsP_cons, List.length_append, List.length_cons]
    have h1 := hf p (List.mem_cons_self ..)
    have h2 := ih (fun q hq => hf q (List.mem_cons_of_mem _ hq))
    omega
theorem run_append_none {P : Program} (w : World) (t ty e : TypeId) (i : TypeInfo) (ht : P.underlying t = some (.slice e)) (hi : P.info? e = some i)
    (b a : Option Addr) (n cap c : Nat) (hcap : n ≤ cap) : (Builtin.append_ #[t, t] ty #[.slice b n cap, .slice a 0 c]).run P w = .ok (.slice b n cap) w := by
  cases a <;> cases b <;> simp [Builtin.append_, run_underlying ht, sizeOf, typeInfo, hi, Builtin.lenOf, hcap, Builtin.firstCells, loadCells, loadCellsFrom, Go.storeCells]
set_option maxRecDepth 100000 in
set_option maxHeartbeats 4000000 in
theorem ccells_any (w : World) (C cb gb : Nat) (L : List (Nat × Pag)) (ps : List (Nat × List Cel)) (hc : Ch C w cb gb L) (hb : BkL L ps) (hpos : 0 < L.length) (hL : L.length ≤ 64) :
    Calls Tryz.prog 60 #[.pointer (some ⟨cb, 0, none⟩)] w fun e w' => ∃ A cap, e = .returned (.slice A (cellsP ps).length cap) ∧ w'.ownsRow w.heap.size 33 4 (.slice A (cellsP ps).length cap) (cellsP ps).length (flatC (cellsP ps)) ∧ Below w.heap.size w w' := by
  obtain ⟨i0, hi, hz0, hz1, hz2⟩ := info_parts info_cell
  obtain ⟨nb, pb, cn, cp, hf⟩ := hc.form hpos
  have hlen := hb.len
  have hfits : ∀ p, p ∈ ps → p.2.length ≤ 59 := fun p hp => by
    obtain ⟨i, hi, e⟩ := List.getElem_of_mem hp
    obtain ⟨cs, h1, h2⟩ := hb.at' i (L[i]'(by omega)).1 (L[i]'(by omega)).2 (List.getElem?_eq_getElem _)
    rw [List.getElem?_eq_getElem hi, e] at h1
    injection h1 with h1
    rw [h1]
    exact h2.fits.len
  have htot : ∀ j, j ≤ ps.length → (cellsP (ps.take j)).length ≤ j * 59 := fun j hj => by
    have := cellsP_le (ps.take j) (fun p hp => hfits p (List.mem_of_mem_take hp))
    rw [List.length_take, Nat.min_eq_left hj] at this
    exact this
  have HB := Lib.hid hb
  have HT := Lib.hid htot
  have F0 := Lib.hid hf
  have B0 := Lib.hid (Below.refl w.heap.size w)
  have O0 : Hid (w.ownsRow w.heap.size 33 4 (.slice none 0 0) (cellsP (ps.take 0)).length (flatC (cellsP (ps.take 0)))) := Lib.hid ⟨rfl, .inl ⟨rfl, rfl⟩⟩
  have cc := blk_cell F0.out.blk
  have lc := lt_of_block F0.out.blk
  clear hc hb hf hfits htot
  go_enter Tryz.func60, Tryz.ntmps60
  go_wp2_with fail
  clear cc lc
  go_loopw [3, 11] (fun o i wr => ∃ (j : Nat) (ov : Value), o = ov ∧ i = .int .i64 j ∧ j ≤ L.length ∧ Hid (wr.ownsRow w.heap.size 33 4 ov (cellsP (ps.take j)).length (flatC (cellsP (ps.take j)))) ∧ Hid (Below w.heap.size w wr)) (fun _ i _ => L.length - (intOf i).toNat)
  case atStart => exact ⟨0, _, rfl, rfl, Nat.zero_le _, O0, B0⟩
  case round =>
    clear O0 B0
    obtain ⟨j, ov, rfl, rfl, hj, O1, B1⟩ := hrel
    have F1 := Lib.hid (F0.out.below B1.out)
    by_cases hlt : j < L.length
    · obtain ⟨⟨m, p⟩, hLj⟩ : ∃ q, L[j]? = some q := ⟨_, List.getElem?_eq_getElem hlt⟩
      obtain ⟨cs, hpj, hbk⟩ := HB.out.at' j m p hLj
      have hC := fun W => bCells_ok p cs hbk W
      obtain ⟨c0, c1, c2, c3⟩ := F1.out.pag j m p hLj
      have lp := F1.out.pl
      have hc59 := hbk.fits.len
      obtain ⟨pk, pd, px, pl⟩ := p
      simp only [Pag.v] at hC
      simp only at c0 c1 c2 c3
      obtain ⟨S, hS⟩ : ∃ S, S = str pl := ⟨_, rfl⟩
      rw [← hS] at hC c3
      have hst : cellsP (ps.take (j + 1)) = cellsP (ps.take j) ++ cs := by
        rw [cellsP_step ps j (by omega)]
        rw [List.getElem?_eq_getElem (by omega)] at hpj
        injection hpj with hpj
        rw [hpj]
      have ht := HT.out j (by omega)
      have d1 : decide ((j : Int) < (L.length : Int)) = true := by simpa using hlt
      have hlt' : (j : Int) < (L.length : Int) := by omega
      have i1 : IntKind.i64.wrap ((j : Int) + 1) = (j : Int) + 1 := IntWalk.i64_in _ (by omega)
      have pb1 := heap_alloc_new wr (pagO pk pd px S)
      have cb1 := blk_cell pb1
      have O2 := Lib.hid (O1.out.alloc (pagO pk pd px S))
      have B2 := Lib.hid (below_al B1.out (pagO pk pd px S))
      have Hst := Lib.hid hst
      generalize hQ : cellsP (ps.take j) = Q at *
      clear hLj hpj hbk hS pb1 F1 O1 B1 hst hQ
      go_wp2_with fail
      with_reducible refine (hC _).mono ?_
      rintro e w2 ⟨A, cap, rfl, ho2, hb2⟩
      have O3 := Lib.hid (own_below O2.out hb2)
      have B3 := Lib.hid (below_base B2.out B2.out.size hb2)
      have Q3 := Lib.hid ho2
      clear ho2 hb2 O2 B2 hC c0 c1 c2 c3 cb1
      have hl := O3.out
      by_cases h0 : cs = []
      · subst h0
        have hQ2 : cellsP (ps.take (j + 1)) = Q := by rw [Hst.out, List.append_nil]
        obtain ⟨b, cp2, hov, hbc⟩ : ∃ b cp2, u3 = .slice b Q.length cp2 ∧ Q.length ≤ cp2 := by
          rcases O3.out.2 with ⟨e, h⟩ | ⟨g, c', _, h, _, h2, _⟩
          · exact ⟨none, 0, by rw [e, h], by omega⟩
          · exact ⟨_, _, h, by omega⟩
        subst hov
        have hrun := fun ty (W : World) => run_append_none (P := Tryz.prog) W 142 ty 33 i0 Tryz.underlying142 hi b A Q.length cp2 cap hbc
        clear hl
        go_wp2_with (at_builtin; refine Lib.wpList_append_run _ rfl _ _ _ _ rfl _ _ rfl rfl _ _ (hrun _ _) ?_)
        refine ⟨⟨j + 1, _, rfl, by go_num, by omega, Lib.hid (by rw [hQ2]; exact O3.out), B3⟩, ?_⟩
        clear i1
        simp [intOf]; omega
      · have hpos2 : 0 < cs.length := List.length_pos_iff.2 h0
        obtain ⟨a, c2, hA⟩ : ∃ a c2, Value.slice A cs.length cap = .slice (some ⟨a, 0, none⟩) cs.length c2 := by
          rcases Q3.out.2 with ⟨e, h⟩ | ⟨g, c', _, h, _, h2, _⟩
          · omega
          · exact ⟨_, _, h⟩
        injection hA with hA _ hA2
        subst hA hA2
        have hsz2 := B3.out.size
        go_wp2_with (at_builtin; refine wpList_append_own _ rfl (.tmp 15) (.tmp 17) _ rfl w.heap.size 33 i0 (.agg #[.string ⟨#[]⟩, .string ⟨#[]⟩, .int .i64 0, .int .i64 0]) 4 48 Tryz.underlying142 hi hz0 hz1 hz2 rfl (by decide) _ Q.length (flatC Q) rfl hl ⟨a, 0, none⟩ cs.length cap (flatC cs) rfl (flatC_len cs) (fun r u hr => Q3.out.cells (g := a) rfl r u hr) (cel_one cs) (by unfold maxLen; omega) (by omega) hsz2 ?_; intro v' w4 hown4 hgrow _)
        refine ⟨⟨j + 1, _, rfl, by go_num, by omega, Lib.hid (by rw [Hst.out, List.length_append, flatC_append]; exact hown4), Lib.hid (below_grown (b := w4) B3.out hsz2 hl hgrow)⟩, ?_⟩
        clear i1
        simp [intOf]; omega
    · have hjl : j = ps.length := by omega
      subst hjl
      have O2 := O1.out
      rw [List.take_length] at O2
      obtain ⟨A, cp2, hov⟩ : ∃ A cp2, u3 = .slice A (cellsP ps).length cp2 := by
        rcases O2.2 with ⟨e, h⟩ | ⟨g, c', _, h, _⟩
        · exact ⟨none, 0, by rw [e, h]⟩
        · exact ⟨_, _, h⟩
      subst hov
      have OF := Lib.hid O2
      clear O1 O2
      go_wp2_with fail
      go_ret
      exact ⟨A, cp2, rfl, OF.out, B1.out⟩
end Go.Proofs.YtijhamllnnilbaaGreatDoor.Ha
