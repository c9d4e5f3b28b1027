/- The contract of package page's Get, of bytes that are a page's, and of bytes that are none by their number. -/
import Derived.Test.YtibbmmkjienekaaDoorPagPut
namespace Go.Proofs.YtibbmmkjienekaaDoor.Gr
open Go.RowKit Go.Proofs.YtibbmmkjienekaaDoor.Mem Go.Proofs.YtibbmmkjienekaaDoor.Pg Go.Proofs.YtibbmmkjienekaaDoor.Kp
set_option linter.unusedSimpArgs false
set_option linter.unusedVariables false

set_option maxRecDepth 100000 in
theorem get_short (s : ByteArray) (w : World) (h : s.size ≠ 256) :
    Calls Tryd.prog 25 #[.string s] w fun e w' => e = .returned (.tuple #[.agg #[.int .i64 0, .int .i64 0, .int .i64 0, .string ⟨#[]⟩], .bool false]) ∧ Below w.heap.size w w' := by
  have d1 : ((s.size : Int) != 256) = true := by simp; omega
  have hc := blk_cell (heap_alloc_new w (.cells #[.int .i64 0, .int .i64 0, .int .i64 0, .string ⟨#[]⟩] 23))
  go_enter Tryd.func25, Tryd.ntmps25
  go_wp2_with fail
  refine bodyPost_ret (v := .tuple #[.agg #[.int .i64 0, .int .i64 0, .int .i64 0, .string ⟨#[]⟩], .bool false]) (by simp [results, Tryd.results25, go_sem, hc]) rfl ⟨rfl, ?_⟩
  exact below_al (Below.refl _ _) _

/-- What stands where in the bytes of a page. -/
theorem Shows.parts {b : List UInt8} {p : Pag} (h : Shows b p) : b[2]? = some (UInt8.ofNat p.k.toNat) ∧ b[3]? = some (UInt8.ofNat p.d.toNat) ∧ b[4]? = some 0 ∧ b[5]? = some (UInt8.ofNat p.x.toNat) ∧ b.drop 16 = p.l := by
  rcases h with ⟨_, rfl⟩ | ⟨rfl, rfl⟩
  · exact ⟨p.at2, p.at3, p.at4, p.at5, Pag.body⟩
  · refine ⟨?_, ?_, ?_, ?_, ?_⟩
    · rw [zs, List.getElem?_replicate, if_pos (by omega)]; rfl
    · rw [zs, List.getElem?_replicate, if_pos (by omega)]; rfl
    · rw [zs, List.getElem?_replicate, if_pos (by omega)]
    · rw [zs, List.getElem?_replicate, if_pos (by omega)]; rfl
    · simp only [zs, List.drop_replicate, Pag.zero]
theorem byte_at {b : List UInt8} {i : Nat} {a : Int} (h0 : 0 ≤ a) (h1 : a < 256) (h : b[i]? = some (UInt8.ofNat a.toNat)) (hi : i < (str b).size) : (((str b)[i]'hi).toNat : Int) = a := by
  have hl : i < b.length := by rw [← str_size b]; exact hi
  have h2 : b[i] = UInt8.ofNat a.toNat := by
    rw [List.getElem?_eq_getElem hl] at h
    exact Option.some.inj h
  have h3 : (str b)[i]'hi = b[i] := rfl
  rw [h3, h2, small_nat h0 h1]
theorem second_new (w : World) (o u : Obj) : ((w.alloc o).alloc u).drew.heap[w.heap.size + 1]? = some u := by
  have h := heap_alloc_new (w.alloc o) u
  have hs : (w.alloc o).heap.size = w.heap.size + 1 := by simp
  rw [hs] at h
  exact h
theorem Pag.ok_mk {k d x : Int} {l : List UInt8} (h1 : 0 ≤ k ∧ k < 6) (h2 : 0 ≤ d ∧ d ≤ 5) (h3 : 0 ≤ x ∧ x < 64) (h4 : l.length = 240) : Pag.ok ⟨k, d, x, l⟩ := ⟨h1.1, h1.2, h2.1, h2.2, h3.1, h3.2, h4⟩
theorem or_zero (x : Int) (h0 : 0 ≤ x) (h1 : x < 256) : bits .or .i64 0 x = x := by
  obtain ⟨n, rfl⟩ := Int.eq_ofNat_of_zero_le h0
  have h2 : (BitVec.ofInt 64 (n : Int)).toNat = n := by
    rw [BitVec.ofInt_natCast, BitVec.toNat_ofNat]; exact Nat.mod_eq_of_lt (by omega)
  have h3 : (BitVec.ofInt 64 (0 : Int)).toNat = 0 := by decide
  show IntKind.i64.wrap ((BitVec.ofInt 64 (0 : Int) ||| BitVec.ofInt 64 (n : Int)).toNat : Int) = _
  rw [BitVec.toNat_or, h2, h3, Nat.zero_or, IntWalk.i64_in _ (by omega)]
theorem cut_16 (b : List UInt8) (h : b.length = 256) : (str b).extract 16 (str b).size = str (b.drop 16) := by
  apply ByteArray.ext
  apply Array.toList_inj.1
  simp [ByteArray.data_extract, str_size]
  rw [List.take_of_length_le (by simp)]

set_option maxRecDepth 100000 in
set_option maxHeartbeats 4000000 in
theorem get_any (b : List UInt8) (p : Pag) (w : World) (ht : Tab w) (h : Shows b p) :
    Calls Tryd.prog 25 #[.string (str b)] w fun e w' => e = .returned (.tuple #[p.v, .bool true]) ∧ Below w.heap.size w w' := by
  have hok := h.ok
  obtain ⟨p2, p3, p4, p5, pb⟩ := h.parts
  have hlen := h.len
  have hcut := cut_16 b hlen
  rw [pb] at hcut
  have hput := put_yes p
  obtain ⟨k, d, x, l⟩ := p
  obtain ⟨k0, k1, d0, d1, x0, x1, hl⟩ := hok
  simp only at k0 k1 d0 d1 x0 x1 hl p2 p3 p5 pb hcut
  have s2 := byte_at (i := 2) k0 (by omega) p2
  have s3 := byte_at (i := 3) d0 (by omega) p3
  have s4 := byte_at (i := 4) (a := 0) (by omega) (by omega) p4
  have s5 := byte_at (i := 5) x0 (by omega) p5
  have hor := or_zero x x0 (by omega)
  obtain ⟨S, hS⟩ : ∃ S, S = str b := ⟨_, rfl⟩
  obtain ⟨T, hT⟩ : ∃ T, T = str l := ⟨_, rfl⟩
  have hSs : S.size = 256 := by rw [hS, str_size]; exact hlen
  simp only [Pag.v] at hput ⊢
  rw [← hS] at s2 s3 s4 s5 hcut ⊢
  rw [← hT] at hcut hput ⊢
  rw [hSs] at hcut
  have Hs := Lib.hid hS
  have HT := Lib.hid hT
  have Hh := Lib.hid h
  have Hk := Lib.hid (And.intro k0 k1)
  have Hl := Lib.hid hl
  have Hd := Lib.hid (And.intro d0 d1)
  have Hx := Lib.hid (And.intro x0 x1)
  have i2 : IntKind.i64.wrap k = k := IntWalk.i64_in _ (by omega)
  have i3 : IntKind.i64.wrap d = d := IntWalk.i64_in _ (by omega)
  have i5 : IntKind.i64.wrap x = x := IntWalk.i64_in _ (by omega)
  have hz : ∀ w, Calls Tryd.prog 37 #[.int .i64 256] w fun e w' => e = .returned (.string (str (zs 256))) ∧ Below w.heap.size w w' := fun w => zeros_any 256 w (by omega)
  clear p2 p3 p4 p5 pb k0 k1 d0 d1 x0 x1 hl hS hT h hlen
  go_enter Tryd.func25, Tryd.ntmps25
  go_wp2_with fail
  go_region
  go_wp2_with fail
  with_reducible refine (hz _).mono ?_
  rintro e w1 ⟨rfl, hb1⟩
  have q2 : w1.heap[w.heap.size]? = some (.cells #[.int .i64 0, .int .i64 0, .int .i64 0, .string ⟨#[]⟩] 23 (0, 0)) := (hb1.block _ (by simp; omega)).trans (hal (heap_alloc_new w _))
  have q4 : w1.heap[w.heap.size + 1]? = some (.cells #[.int .i64 k, .int .i64 d, .int .i64 x, .string T] 23 (0, 0)) := (hb1.block _ (by simp)).trans (second_new w _ _)
  have hbb : Below w.heap.size w w1 := below_base (a := ((w.alloc (.cells #[.int .i64 0, .int .i64 0, .int .i64 0, .string ⟨#[]⟩] 23)).alloc (.cells #[.int .i64 k, .int .i64 d, .int .i64 x, .string T] 23)).drew) (below_dr (below_al (below_al (Below.refl _ w) _) _)) (by simp; omega) hb1
  have c2 := blk_cell q2
  have f2 := blk_free q2
  have z2 := lt_of_block q2
  have c4 := blk_cell q4
  have z4 := lt_of_block q4
  have hT1 : Tab w1 := ht.below hbb
  obtain ⟨Z, hZ⟩ : ∃ Z, Z = str (zs 256) := ⟨_, rfl⟩
  rw [← hZ]
  clear hb1 s2 s3 s4 s5
  rcases Hh.out with ⟨_, hbb2⟩ | ⟨hbb2, _⟩
  · have hne : (S.toList == Z.toList) = false := (Lib.bytes_beq_false_iff _ _).2 (fun e => by
      rw [Hs.out, hZ, hbb2] at e
      have e := congrArg (fun t : ByteArray => t.data.toList) e
      exact Pag.bytes_ne _ e)
    have hpb : str (Pag.bytes ⟨k, d, x, l⟩) = S := by rw [Hs.out, hbb2]
    have hee : (S.toList == S.toList) = true := by simp
    rw [hpb] at hput
    clear hZ hbb2 hpb
    go_wp2_with fail
    with_reducible refine (hput _ hT1 (Pag.ok_mk Hk.out Hd.out Hx.out Hl.out)).mono ?_
    rintro e w2 ⟨rfl, hb2⟩
    have r2 := blk_keep q2 hb2
    have r4 := blk_keep q4 hb2
    have hbc := below_tr hbb hb2
    clear c2 f2 z2 c4 z4
    have c2 := blk_cell r2
    have f2 := blk_free r2
    have z2 := lt_of_block r2
    have c4 := blk_cell r4
    have z4 := lt_of_block r4
    clear q2 q4 hb2 r4
    go_wp2_with fail
    have c5 := blk_cell (set4_same r2 (.int .i64 k) (.int .i64 d) (.int .i64 x) (.string T))
    refine bodyPost_ret (v := .tuple #[.agg #[.int .i64 k, .int .i64 d, .int .i64 x, .string T], .bool true]) (by simp [results, Tryd.results25, go_sem, c2]) rfl ⟨rfl, ?_⟩
    exact below_set (below_set (below_set (below_set hbc (Nat.le_refl _)) (Nat.le_refl _)) (Nat.le_refl _)) (Nat.le_refl _)
  · have hne : (S.toList == Z.toList) = true := by
      have : S = Z := by rw [Hs.out, hZ, hbb2]
      rw [this]
      simp
    clear hZ hbb2 hput
    go_wp2_with fail
    refine bodyPost_ret (v := .tuple #[.agg #[.int .i64 k, .int .i64 d, .int .i64 x, .string T], .bool true]) (by simp [results, Tryd.results25, go_sem, c2]) rfl ⟨rfl, ?_⟩
    exact below_set (below_set (below_set (below_set hbb (Nat.le_refl _)) (Nat.le_refl _)) (Nat.le_refl _)) (Nat.le_refl _)
end Go.Proofs.YtibbmmkjienekaaDoor.Gr
