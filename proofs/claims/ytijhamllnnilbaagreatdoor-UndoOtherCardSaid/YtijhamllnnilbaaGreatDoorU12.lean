/- Lemmas of the claim, in their order:
- The contract of package page's Get, of bytes that are a page's, and of bytes that are none by their number.
- Maps from the numbers of pages to strings.
-/
import Derived.Test.YtijhamllnnilbaaGreatDoorU11
import Derived.Maps.StringElems
import Derived.Maps.RangeWalk
import Derived.Maps.OwnSet
set_option linter.unusedVariables false
set_option linter.unusedSimpArgs false
namespace Go.Proofs.YtijhamllnnilbaaGreatDoor.Gr
open Go.RowKit Go.Proofs.YtijhamllnnilbaaGreatDoor.Mem Go.Proofs.YtijhamllnnilbaaGreatDoor.Pg Go.Proofs.YtijhamllnnilbaaGreatDoor.Kp
set_option linter.unusedSimpArgs false
set_option linter.unusedVariables false

/-- What stands where in the bytes of a page. -/
theorem Shows.parts {b : List UInt8} {p : Pag} (h : Shows b p) : b[2]? = some (UInt8.ofNat p.k.toNat) ∧ b[3]? = some (UInt8.ofNat p.d.toNat) ∧ b[4]? = some 0 ∧ b[5]? = some (UInt8.ofNat p.x.toNat) ∧ b.drop 16 = p.l := by
  rcases h with ⟨_, rfl⟩ | ⟨rfl, rfl⟩
  · exact ⟨p.at2, p.at3, p.at4, p.at5, Pag.body⟩
  · refine ⟨?_, ?_, ?_, ?_, ?_⟩
    · rw [zs, List.getElem?_replicate, if_pos (by omega)]; rfl
    · rw [zs, List.getElem?_replicate, if_pos (by omega)]; rfl
    · rw [zs, List.getElem?_replicate, if_pos (by omega)]
    · rw [zs, List.getElem?_replicate, if_pos (by omega)]; rfl
    · simp only [zs, List.drop_replicate, Pag.zero]
theorem byte_at {b : List UInt8} {i : Nat} {a : Int} (h0 : 0 ≤ a) (h1 : a < 256) (h : b[i]? = some (UInt8.ofNat a.toNat)) (hi : i < (str b).size) : (((str b)[i]'hi).toNat : Int) = a := by
  have hl : i < b.length := by rw [← str_size b]; exact hi
  have h2 : b[i] = UInt8.ofNat a.toNat := by
    rw [List.getElem?_eq_getElem hl] at h
    exact Option.some.inj h
  have h3 : (str b)[i]'hi = b[i] := rfl
  rw [h3, h2, small_nat h0 h1]
theorem second_new (w : World) (o u : Obj) : ((w.alloc o).alloc u).drew.heap[w.heap.size + 1]? = some u := by
  have h := heap_alloc_new (w.alloc o) u
  have hs : (w.alloc o).heap.size = w.heap.size + 1 := by simp
  rw [hs] at h
  exact h
theorem Pag.ok_mk {k d x : Int} {l : List UInt8} (h1 : 0 ≤ k ∧ k < 6) (h2 : 0 ≤ d ∧ d ≤ 5) (h3 : 0 ≤ x ∧ x < 64) (h4 : l.length = 240) : Pag.ok ⟨k, d, x, l⟩ := ⟨h1.1, h1.2, h2.1, h2.2, h3.1, h3.2, h4⟩
theorem or_zero (x : Int) (h0 : 0 ≤ x) (h1 : x < 256) : bits .or .i64 0 x = x := by
  obtain ⟨n, rfl⟩ := Int.eq_ofNat_of_zero_le h0
  have h2 : (BitVec.ofInt 64 (n : Int)).toNat = n := by
    rw [BitVec.ofInt_natCast, BitVec.toNat_ofNat]; exact Nat.mod_eq_of_lt (by omega)
  have h3 : (BitVec.ofInt 64 (0 : Int)).toNat = 0 := by decide
  show IntKind.i64.wrap ((BitVec.ofInt 64 (0 : Int) ||| BitVec.ofInt 64 (n : Int)).toNat : Int) = _
  rw [BitVec.toNat_or, h2, h3, Nat.zero_or, IntWalk.i64_in _ (by omega)]
theorem cut_16 (b : List UInt8) (h : b.length = 256) : (str b).extract 16 (str b).size = str (b.drop 16) := by
  apply ByteArray.ext
  apply Array.toList_inj.1
  simp [ByteArray.data_extract, str_size]
  rw [List.take_of_length_le (by simp)]

set_option maxRecDepth 100000 in
set_option maxHeartbeats 4000000 in
theorem get_any (b : List UInt8) (p : Pag) (w : World) (ht : Tab w) (h : Shows b p) :
    Calls Tryz.prog 152 #[.string (str b)] w fun e w' => e = .returned (.tuple #[p.v, .bool true]) ∧ Below w.heap.size w w' := by
  have hok := h.ok
  obtain ⟨p2, p3, p4, p5, pb⟩ := h.parts
  have hlen := h.len
  have hcut := cut_16 b hlen
  rw [pb] at hcut
  have hput := put_yes p
  obtain ⟨k, d, x, l⟩ := p
  obtain ⟨k0, k1, d0, d1, x0, x1, hl⟩ := hok
  simp only at k0 k1 d0 d1 x0 x1 hl p2 p3 p5 pb hcut
  have s2 := byte_at (i := 2) k0 (by omega) p2
  have s3 := byte_at (i := 3) d0 (by omega) p3
  have s4 := byte_at (i := 4) (a := 0) (by omega) (by omega) p4
  have s5 := byte_at (i := 5) x0 (by omega) p5
  have hor := or_zero x x0 (by omega)
  obtain ⟨S, hS⟩ : ∃ S, S = str b := ⟨_, rfl⟩
  obtain ⟨T, hT⟩ : ∃ T, T = str l := ⟨_, rfl⟩
  have hSs : S.size = 256 := by rw [hS, str_size]; exact hlen
  simp only [Pag.v] at hput ⊢
  rw [← hS] at s2 s3 s4 s5 hcut ⊢
  rw [← hT] at hcut hput ⊢
  rw [hSs] at hcut
  have Hs := Lib.hid hS
  have HT := Lib.hid hT
  have Hh := Lib.hid h
  have Hk := Lib.hid (And.intro k0 k1)
  have Hl := Lib.hid hl
  have Hd := Lib.hid (And.intro d0 d1)
  have Hx := Lib.hid (And.intro x0 x1)
  have i2 : IntKind.i64.wrap k = k := IntWalk.i64_in _ (by omega)
  have i3 : IntKind.i64.wrap d = d := IntWalk.i64_in _ (by omega)
  have i5 : IntKind.i64.wrap x = x := IntWalk.i64_in _ (by omega)
  have hz : ∀ w, Calls Tryz.prog 131 #[.int .i64 256] w fun e w' => e = .returned (.string (str (zs 256))) ∧ Below w.heap.size w w' := fun w => zeros_any 256 w (by omega)
  clear p2 p3 p4 p5 pb k0 k1 d0 d1 x0 x1 hl hS hT h hlen
  go_enter Tryz.func152, Tryz.ntmps152
  go_wp2_with fail
  go_region
  go_wp2_with fail
  with_reducible refine (hz _).mono ?_
  rintro e w1 ⟨rfl, hb1⟩
  have q2 : w1.heap[w.heap.size]? = some (.cells #[.int .i64 0, .int .i64 0, .int .i64 0, .string ⟨#[]⟩] 113 (0, 0)) := (hb1.block _ (by simp; omega)).trans (hal (heap_alloc_new w _))
  have q4 : w1.heap[w.heap.size + 1]? = some (.cells #[.int .i64 k, .int .i64 d, .int .i64 x, .string T] 113 (0, 0)) := (hb1.block _ (by simp)).trans (second_new w _ _)
  have hbb : Below w.heap.size w w1 := below_base (a := ((w.alloc (.cells #[.int .i64 0, .int .i64 0, .int .i64 0, .string ⟨#[]⟩] 113)).alloc (.cells #[.int .i64 k, .int .i64 d, .int .i64 x, .string T] 113)).drew) (below_dr (below_al (below_al (Below.refl _ w) _) _)) (by simp; omega) hb1
  have c2 := blk_cell q2
  have f2 := blk_free q2
  have z2 := lt_of_block q2
  have c4 := blk_cell q4
  have z4 := lt_of_block q4
  have hT1 : Tab w1 := ht.below hbb
  obtain ⟨Z, hZ⟩ : ∃ Z, Z = str (zs 256) := ⟨_, rfl⟩
  rw [← hZ]
  clear hb1 s2 s3 s4 s5
  rcases Hh.out with ⟨_, hbb2⟩ | ⟨hbb2, _⟩
  · have hne : (S.toList == Z.toList) = false := (Lib.bytes_beq_false_iff _ _).2 (fun e => by
      rw [Hs.out, hZ, hbb2] at e
      have e := congrArg (fun t : ByteArray => t.data.toList) e
      exact Pag.bytes_ne _ e)
    have hpb : str (Pag.bytes ⟨k, d, x, l⟩) = S := by rw [Hs.out, hbb2]
    have hee : (S.toList == S.toList) = true := by simp
    rw [hpb] at hput
    clear hZ hbb2 hpb
    go_wp2_with fail
    with_reducible refine (hput _ hT1 (Pag.ok_mk Hk.out Hd.out Hx.out Hl.out)).mono ?_
    rintro e w2 ⟨rfl, hb2⟩
    have r2 := blk_keep q2 hb2
    have r4 := blk_keep q4 hb2
    have hbc := below_tr hbb hb2
    clear c2 f2 z2 c4 z4
    have c2 := blk_cell r2
    have f2 := blk_free r2
    have z2 := lt_of_block r2
    have c4 := blk_cell r4
    have z4 := lt_of_block r4
    clear q2 q4 hb2 r4
    go_wp2_with fail
    have c5 := blk_cell (set4_same r2 (.int .i64 k) (.int .i64 d) (.int .i64 x) (.string T))
    refine bodyPost_ret (v := .tuple #[.agg #[.int .i64 k, .int .i64 d, .int .i64 x, .string T], .bool true]) (by simp [results, Tryz.results152, go_sem, c2]) rfl ⟨rfl, ?_⟩
    exact below_set (below_set (below_set (below_set hbc (Nat.le_refl _)) (Nat.le_refl _)) (Nat.le_refl _)) (Nat.le_refl _)
  · have hne : (S.toList == Z.toList) = true := by
      have : S = Z := by rw [Hs.out, hZ, hbb2]
      rw [this]
      simp
    clear hZ hbb2 hput
    go_wp2_with fail
    refine bodyPost_ret (v := .tuple #[.agg #[.int .i64 k, .int .i64 d, .int .i64 x, .string T], .bool true]) (by simp [results, Tryz.results152, go_sem, c2]) rfl ⟨rfl, ?_⟩
    exact below_set (below_set (below_set (below_set hbb (Nat.le_refl _)) (Nat.le_refl _)) (Nat.le_refl _)) (Nat.le_refl _)
end Go.Proofs.YtijhamllnnilbaaGreatDoor.Gr
namespace Go.Proofs.YtijhamllnnilbaaGreatDoor.Gr
open Go.RowKit Go.Proofs.YtijhamllnnilbaaGreatDoor.Mem Go.Proofs.YtijhamllnnilbaaGreatDoor.Pg Go.Proofs.YtijhamllnnilbaaGreatDoor.Kp

theorem ikeyed : Maps.Keyed Tryz.prog 3 := Maps.int_keyed Tryz.underlying3
theorem zero_str (w : World) : (zeroValue 9).run Tryz.prog w = .ok (.string ⟨#[]⟩) w := by kernel_rfl
abbrev kl (i : Int) : Lit := .int .i64 i
theorem kl_ne {i j : Int} (h : i ≠ j) : kl i ≠ kl j := fun e => h (by injection e)
theorem kl_wf {i : Int} (h0 : 0 ≤ i) (h1 : i < 64) : (Lit.int .i64 i).wf = true := by
  have h2 : IntKind.i64.min = -9223372036854775808 := rfl
  have h3 : IntKind.i64.max = 9223372036854775807 := rfl
  simp only [Lit.wf, h2, h3, Bool.and_eq_true, decide_eq_true_eq]
  omega
theorem nodup_le : ∀ (m : Nat) (ks : List Int), ks.Nodup → (∀ i ∈ ks, 0 ≤ i ∧ i < m) → ks.length ≤ m
  | 0, ks, _, h => by
    cases ks with
    | nil => simp
    | cons a r => have := h a (by simp); omega
  | m + 1, ks, hn, h => by
    by_cases hm : (m : Int) ∈ ks
    · have h1 := nodup_le m (ks.erase (m : Int)) (hn.erase _) (fun i hi => by
        have h2 := hn.mem_erase_iff.1 hi
        have h3 := h i h2.2
        have h4 := h2.1
        omega)
      rw [List.length_erase_of_mem hm] at h1
      omega
    · have h1 := nodup_le m ks hn (fun i hi => by
        have h3 := h i hi
        have h4 : i ≠ m := fun e => hm (e ▸ hi)
        omega)
      omega

/-- Block b is a map that holds F: from numbers of pages to their bytes. -/
structure MapIs (w : World) (b : Nat) (F : Int → Option (List UInt8)) : Prop where
  ex : ∃ (D : DataW Unit) (ks : List Int), w.ownsMap Tryz.prog 3 (plainElem Tryz.prog 9) b (Maps.size D) D ∧ ks.Nodup ∧ Maps.size D = ks.length ∧ (∀ i, i ∈ ks ↔ F i ≠ none) ∧ (∀ i, Maps.has D (kl i) = (F i).isSome) ∧ ∀ i l, F i = some l → D.atKey (kl i) (.lit (.string [])) = .lit (.string l)
  rng : ∀ i l, F i = some l → 0 ≤ i ∧ i < 64 ∧ l.length ≤ 1000000
def upd (F : Int → Option (List UInt8)) (i : Int) (l : List UInt8) : Int → Option (List UInt8) := fun j => if j = i then some l else F j
theorem upd_same (F : Int → Option (List UInt8)) (i : Int) (l : List UInt8) : upd F i l i = some l := if_pos rfl
theorem upd_other (F : Int → Option (List UInt8)) {i j : Int} (l : List UInt8) (h : j ≠ i) : upd F i l j = F j := if_neg h

theorem owns_tight {w : World} {b n : Nat} {D : DataW Unit} {k : TypeId} {R : Value → Option (DataW Unit × List MemPlace)} (h : w.ownsMap Tryz.prog k R b n D) : w.ownsMap Tryz.prog k R b (Maps.size D) D := by
  obtain ⟨es, clock, hb, F, _, rfl⟩ := h
  refine ⟨es, clock, hb, F, ?_, rfl⟩
  rw [Maps.size_eq, length_read]
  exact Nat.le_refl _
theorem owns_block {w w' : World} {b n : Nat} {D : DataW Unit} {k : TypeId} {R : Value → Option (DataW Unit × List MemPlace)} (h : w.ownsMap Tryz.prog k R b n D) (e : w'.heap[b]? = w.heap[b]?) : w'.ownsMap Tryz.prog k R b n D := by
  obtain ⟨es, clock, hb, F, hs, rfl⟩ := h
  exact ⟨es, clock, e.trans hb, F, hs, rfl⟩

section
variable {w w' : World} {b : Nat} {F : Int → Option (List UInt8)}
theorem MapIs.lt (h : MapIs w b F) : b < w.heap.size := by
  obtain ⟨D, ks, ho, _⟩ := h.ex
  exact ho.lt
theorem MapIs.block (h : MapIs w b F) (e : w'.heap[b]? = w.heap[b]?) : MapIs w' b F := by
  obtain ⟨D, ks, ho, rest⟩ := h.ex
  exact ⟨⟨D, ks, owns_block ho e, rest⟩, h.rng⟩
theorem MapIs.below (h : MapIs w b F) (k : Below w.heap.size w w') : MapIs w' b F := h.block (k.block _ h.lt)
theorem MapIs.made (w : World) : MapIs (w.alloc (.map #[] 0)) w.heap.size (fun _ => none) := by
  refine ⟨⟨.map [], [], World.ownsMap_made w _ _ _, List.nodup_nil, rfl, by simp, ?_, ?_⟩, ?_⟩
  · intro i; rfl
  · intro i l h; cases h
  · intro i l h; cases h
theorem MapIs.look (h : MapIs w b F) (i : Int) (hi : (Lit.int .i64 i).wf = true) :
    (Instr.lookup 117 (.map (some b)) (.int .i64 i) true).run Tryz.prog w = .ok (.tuple #[.string (str ((F i).getD [])), .bool (F i).isSome]) w := by
  obtain ⟨D, ks, ho, hn, hsz, hks, hhas, hat⟩ := h.ex
  have hz := plainElem_string (H := Unit) (P := Tryz.prog) (e := 9) Tryz.underlying9 (s := ⟨#[]⟩) (by simp [ByteArray.size, maxLen])
  obtain ⟨v, ps, hrun, hv⟩ := ho.look_ok ikeyed Tryz.underlying117 (zero_str w) hz (Maps.keyOf_int_mk Tryz.underlying3 hi)
  rw [hhas i] at hrun
  obtain ⟨s, rfl, hs, _⟩ := plainElem_string_inv Tryz.underlying9 hv
  have hs1 : D.atKey (kl i) (.lit (.string [])) = .lit (.string s.data.toList) := (Prod.mk.inj hs).1
  rcases e : F i with _ | l
  · rw [e] at hrun
    have h1 : Maps.has D (kl i) = false := by rw [hhas i, e]; rfl
    rw [Maps.atKey_of_not_has h1] at hs1
    simp only [DataW.lit.injEq, Lit.string.injEq] at hs1
    have hs2 : s = str s.data.toList := str_of s
    rw [← hs1] at hs2
    rw [hs2] at hrun
    simp only [Option.getD_none, Option.isSome_none] at hrun ⊢
    exact hrun
  · rw [e] at hrun
    rw [hat i l e] at hs1
    simp only [DataW.lit.injEq, Lit.string.injEq] at hs1
    have hs2 : s = str s.data.toList := str_of s
    rw [← hs1] at hs2
    rw [hs2] at hrun
    simp only [Option.getD_some, Option.isSome_some] at hrun ⊢
    exact hrun
theorem MapIs.look1 (h : MapIs w b F) (i : Int) (hi : (Lit.int .i64 i).wf = true) :
    (Instr.lookup 117 (.map (some b)) (.int .i64 i) false).run Tryz.prog w = .ok (.string (str ((F i).getD []))) w := by
  obtain ⟨D, ks, ho, hn, hsz, hks, hhas, hat⟩ := h.ex
  have hz := plainElem_string (H := Unit) (P := Tryz.prog) (e := 9) Tryz.underlying9 (s := ⟨#[]⟩) (by simp [ByteArray.size, maxLen])
  obtain ⟨v, ps, hrun, hv⟩ := ho.lookup ikeyed Tryz.underlying117 (zero_str w) hz (Maps.keyOf_int_mk Tryz.underlying3 hi)
  obtain ⟨s, rfl, hs, _⟩ := plainElem_string_inv Tryz.underlying9 hv
  have hs1 : D.atKey (kl i) (.lit (.string [])) = .lit (.string s.data.toList) := (Prod.mk.inj hs).1
  rcases e : F i with _ | l
  · have h1 : Maps.has D (kl i) = false := by rw [hhas i, e]; rfl
    rw [Maps.atKey_of_not_has h1] at hs1
    simp only [DataW.lit.injEq, Lit.string.injEq] at hs1
    have hs2 : s = str s.data.toList := str_of s
    rw [← hs1] at hs2
    rw [hs2] at hrun
    simp only [Option.getD_none]
    exact hrun
  · rw [hat i l e] at hs1
    simp only [DataW.lit.injEq, Lit.string.injEq] at hs1
    have hs2 : s = str s.data.toList := str_of s
    rw [← hs1] at hs2
    rw [hs2] at hrun
    simp only [Option.getD_some]
    exact hrun
theorem MapIs.put (h : MapIs w b F) (i : Int) (h0 : 0 ≤ i) (h1 : i < 64) (l : List UInt8) (hl : l.length ≤ 1000000) :
    ∃ w', (Instr.mapUpdate 117 (.map (some b)) (.int .i64 i) (.string (str l))).run Tryz.prog w = .ok () w' ∧ MapIs w' b (upd F i l) ∧ w.grownBy w' (some b) := by
  obtain ⟨D, ks, ho, hn, hsz, hks, hhas, hat⟩ := h.ex
  have hwf := kl_wf h0 h1
  have hlen : ks.length ≤ 64 := nodup_le 64 ks hn (fun j hj => by
    rcases e : F j with _ | l'
    · exact absurd e ((hks j).1 hj)
    · have := h.rng j l' e
      exact ⟨this.1, this.2.1⟩)
  have hkey := Maps.keyOf_int_mk Tryz.underlying3 hwf
  have hisk : WideAt.IsKeyLit (kl i) := ikeyed.key hkey
  have hv : plainElem (H := Unit) Tryz.prog 9 (.string (str l)) = some (.lit (.string l), []) := plainElem_string Tryz.underlying9 (by rw [str_size]; unfold maxLen; omega)
  obtain ⟨w', hrun, hown, hg⟩ := ho.update ikeyed Tryz.underlying117 (by rw [hsz]; unfold maxLen; omega) hkey hv
  have htidy := ho.tidy ikeyed
  have hsz' := Maps.size_put (k := kl i) htidy (.lit (.string l))
  refine ⟨w', hrun, ⟨⟨D.put (kl i) (.lit (.string l)), if F i = none then i :: ks else ks, owns_tight hown, ?_, ?_, ?_, ?_, ?_⟩, ?_⟩, hg⟩
  · split
    · rename_i e
      exact List.nodup_cons.2 ⟨fun hi => (hks i).1 hi e, hn⟩
    · exact hn
  · rw [hsz', hhas i]
    rcases e : F i with _ | l'
    · simp [hsz]
    · simp [hsz]
  · intro j
    by_cases hj : j = i
    · subst hj
      rw [upd_same]
      split
      · simp
      · rename_i e
        simpa using (hks j).2 e
    · rw [upd_other _ _ hj, ← hks j]
      split
      · simp [hj]
      · exact Iff.rfl
  · intro j
    by_cases hj : j = i
    · subst hj
      rw [upd_same, Maps.has_put_same htidy.isMap hisk]
      rfl
    · rw [upd_other _ _ hj, Maps.has_put_other (kl_ne hj)]
      exact hhas j
  · intro j l' hjl
    by_cases hj : j = i
    · subst hj
      rw [upd_same] at hjl
      rw [Maps.atKey_put_same htidy.isMap hisk, Option.some.inj hjl]
    · rw [upd_other _ _ hj] at hjl
      rw [Maps.atKey_put_other (kl_ne hj)]
      exact hat j l' hjl
  · intro j l' hjl
    by_cases hj : j = i
    · subst hj
      rw [upd_same] at hjl
      rw [← Option.some.inj hjl]
      exact ⟨h0, h1, hl⟩
    · rw [upd_other _ _ hj] at hjl
      exact h.rng j l' hjl
end
end Go.Proofs.YtijhamllnnilbaaGreatDoor.Gr
