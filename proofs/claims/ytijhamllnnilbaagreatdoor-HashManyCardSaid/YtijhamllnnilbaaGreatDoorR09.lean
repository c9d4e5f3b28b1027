/- Lemmas of the claim, in their order:
- A part of the trie is another one. No program in sight.
- The contract of package page's Get, of bytes that are a page's, and of bytes that are none by their number.
- Maps from the numbers of pages to strings.
- The store of chapter 18's laws, and how it reads; what a group over it is; package group's New, Taken, Bytes.
-/
import Derived.Test.YtijhamllnnilbaaGreatDoorR05
import Derived.Test.YtijhamllnnilbaaGreatDoorR08
import Derived.Maps.StringElems
import Derived.Maps.RangeWalk
import Derived.Maps.OwnSet
import Derived.Deep.RegionHeld
import Derived.RegionTactic
import Derived.Carry
set_option linter.unusedVariables false
set_option linter.unusedSimpArgs false
namespace Go.Proofs.YtijhamllnnilbaaGreatDoor.Ha
open Go.RowKit Go.Proofs.YtijhamllnnilbaaGreatDoor.Mem Go.Proofs.YtijhamllnnilbaaGreatDoor.Pg Go.Proofs.YtijhamllnnilbaaGreatDoor.Gr
set_option linter.unusedVariables false
set_option linter.unusedSimpArgs false
namespace Tri
def sub : Tri → Nat → Nat → Tri
 | t, _, 0 => t
 | leaf b, _, _ + 1 => leaf b
 | node z o, h, k + 1 => if h % 2 = 0 then z.sub (h / 2) k else o.sub (h / 2) k
def upd : Tri → Nat → Nat → Tri → Tri
 | _, _, 0, s => s
 | leaf b, _, _ + 1, _ => leaf b
 | node z o, h, k + 1, s => if h % 2 = 0 then node (z.upd (h / 2) k s) o else node z (o.upd (h / 2) k s)
theorem at_node (z o : Tri) (i : Nat) : (node z o).at' i = if i % 2 = 0 then z.at' (i / 2) else o.at' (i / 2) := rfl
theorem dep_node (z o : Tri) (i : Nat) : (node z o).dep i = if i % 2 = 0 then z.dep (i / 2) + 1 else o.dep (i / 2) + 1 := rfl
theorem height_node (z o : Tri) : (node z o).height = max z.height o.height + 1 := rfl
theorem sub_zero (t : Tri) (h : Nat) : t.sub h 0 = t := by cases t <;> rfl
theorem upd_zero (t : Tri) (h : Nat) (s : Tri) : t.upd h 0 s = s := by cases t <;> rfl
theorem mod_step (i h k : Nat) : i % 2 ^ (k + 1) = h % 2 ^ (k + 1) ↔ i % 2 = h % 2 ∧ i / 2 % 2 ^ k = h / 2 % 2 ^ k := by
 obtain ⟨a1, a2⟩ := half_mod i k
 obtain ⟨b1, b2⟩ := half_mod h k
 have h1 := Nat.div_add_mod (i % 2 ^ (k + 1)) 2
 have h2 := Nat.div_add_mod (h % 2 ^ (k + 1)) 2
 constructor
 · intro e
   rw [e] at a1 a2
   exact ⟨by omega, by omega⟩
 · rintro ⟨e1, e2⟩
   omega
theorem div_step (i k : Nat) : i / 2 / 2 ^ k = i / 2 ^ (k + 1) := by
 rw [Nat.div_div_eq_div_mul, Nat.pow_succ, Nat.mul_comm]
theorem at_upd (s : Tri) : ∀ (k : Nat) (t : Tri) (h i : Nat), k ≤ t.dep h → (t.upd h k s).at' i = if i % 2 ^ k = h % 2 ^ k then s.at' (i / 2 ^ k) else t.at' i
 | 0, t, h, i, _ => by rw [upd_zero]; simp [Nat.mod_one]
 | k + 1, leaf b, h, i, hk => by simp [dep] at hk
 | k + 1, node z o, h, i, hk => by
  rw [dep_node] at hk
  simp only [mod_step i h k, ← div_step]
  by_cases hh : h % 2 = 0
  · rw [if_pos hh] at hk
    unfold upd; rw [if_pos hh]
    rw [at_node, at_node]
    by_cases hi : i % 2 = 0
    · rw [if_pos hi, if_pos hi, at_upd s k z (h / 2) (i / 2) (by omega)]
      simp [hi, hh]
    · rw [if_neg hi, if_neg hi, if_neg (by omega)]
  · rw [if_neg hh] at hk
    unfold upd; rw [if_neg hh]
    rw [at_node, at_node]
    by_cases hi : i % 2 = 0
    · rw [if_pos hi, if_pos hi, if_neg (by omega)]
    · rw [if_neg hi, if_neg hi, at_upd s k o (h / 2) (i / 2) (by omega)]
      have e : i % 2 = h % 2 := by omega
      simp [e]
theorem dep_upd (s : Tri) : ∀ (k : Nat) (t : Tri) (h i : Nat), k ≤ t.dep h → (t.upd h k s).dep i = if i % 2 ^ k = h % 2 ^ k then k + s.dep (i / 2 ^ k) else t.dep i
 | 0, t, h, i, _ => by rw [upd_zero]; simp [Nat.mod_one]
 | k + 1, leaf b, h, i, hk => by simp [dep] at hk
 | k + 1, node z o, h, i, hk => by
  rw [dep_node] at hk
  simp only [mod_step i h k, ← div_step]
  by_cases hh : h % 2 = 0
  · rw [if_pos hh] at hk
    unfold upd; rw [if_pos hh]
    rw [dep_node, dep_node]
    by_cases hi : i % 2 = 0
    · rw [if_pos hi, if_pos hi, dep_upd s k z (h / 2) (i / 2) (by omega)]
      by_cases e : i / 2 % 2 ^ k = h / 2 % 2 ^ k
      · rw [if_pos e, if_pos ⟨by omega, e⟩]; omega
      · rw [if_neg e, if_neg (fun x => e x.2)]
    · rw [if_neg hi, if_neg hi, if_neg (by omega)]
  · rw [if_neg hh] at hk
    unfold upd; rw [if_neg hh]
    rw [dep_node, dep_node]
    by_cases hi : i % 2 = 0
    · rw [if_pos hi, if_pos hi, if_neg (by omega)]
    · rw [if_neg hi, if_neg hi, dep_upd s k o (h / 2) (i / 2) (by omega)]
      by_cases e : i / 2 % 2 ^ k = h / 2 % 2 ^ k
      · rw [if_pos e, if_pos ⟨by omega, e⟩]; omega
      · rw [if_neg e, if_neg (fun x => e x.2)]
theorem sub_dep : ∀ (t : Tri) (h : Nat), t.sub h (t.dep h) = leaf (t.at' h)
 | leaf b, h => rfl
 | node z o, h => by
  unfold dep at'
  by_cases hh : h % 2 = 0
  · rw [if_pos hh, if_pos hh]; unfold sub; rw [if_pos hh]; exact z.sub_dep _
  · rw [if_neg hh, if_neg hh]; unfold sub; rw [if_neg hh]; exact o.sub_dep _
theorem upd_sub : ∀ (k : Nat) (t : Tri) (h : Nat), t.upd h k (t.sub h k) = t
 | 0, t, h => by rw [upd_zero, sub_zero]
 | k + 1, leaf b, h => rfl
 | k + 1, node z o, h => by
  unfold upd sub
  by_cases hh : h % 2 = 0
  · rw [if_pos hh, if_pos hh, upd_sub k z]
  · rw [if_neg hh, if_neg hh, upd_sub k o]
theorem at_sub (t : Tri) (k h i : Nat) (hk : k ≤ t.dep h) (e : i % 2 ^ k = h % 2 ^ k) : t.at' i = (t.sub h k).at' (i / 2 ^ k) := by
 have := at_upd (t.sub h k) k t h i hk
 rw [upd_sub, if_pos e] at this
 exact this
theorem dep_sub (t : Tri) (k h i : Nat) (hk : k ≤ t.dep h) (e : i % 2 ^ k = h % 2 ^ k) : t.dep i = k + (t.sub h k).dep (i / 2 ^ k) := by
 have := dep_upd (t.sub h k) k t h i hk
 rw [upd_sub, if_pos e] at this
 exact this
theorem leaves_upd : ∀ (k : Nat) (t : Tri) (h : Nat), k ≤ t.dep h → ∃ L R, t.leaves = L ++ ((t.sub h k).leaves ++ R) ∧ ∀ s, (t.upd h k s).leaves = L ++ (s.leaves ++ R)
 | 0, t, h, _ => ⟨[], [], by rw [sub_zero]; simp, fun s => by rw [upd_zero]; simp⟩
 | k + 1, leaf b, h, hk => by simp [dep] at hk
 | k + 1, node z o, h, hk => by
  unfold dep at hk
  unfold sub
  by_cases hh : h % 2 = 0
  · rw [if_pos hh] at hk ⊢
    obtain ⟨L, R, e, f⟩ := leaves_upd k z (h / 2) (by omega)
    refine ⟨L, R ++ o.leaves, ?_, fun s => ?_⟩
    · show z.leaves ++ o.leaves = _
      rw [e]; simp
    · unfold upd; rw [if_pos hh]
      show (z.upd _ _ _).leaves ++ o.leaves = _
      rw [f]; simp
  · rw [if_neg hh] at hk ⊢
    obtain ⟨L, R, e, f⟩ := leaves_upd k o (h / 2) (by omega)
    refine ⟨z.leaves ++ L, R, ?_, fun s => ?_⟩
    · show z.leaves ++ o.leaves = _
      rw [e]; simp
    · unfold upd; rw [if_neg hh]
      show z.leaves ++ (o.upd _ _ _).leaves = _
      rw [f]; simp
theorem height_upd (s : Tri) : ∀ (k : Nat) (t : Tri) (h : Nat), (t.upd h k s).height ≤ max t.height (k + s.height)
 | 0, t, h => by rw [upd_zero]; omega
 | k + 1, leaf b, h => by unfold upd; omega
 | k + 1, node z o, h => by
  unfold upd
  by_cases hh : h % 2 = 0
  · rw [if_pos hh]
    have := height_upd s k z (h / 2)
    rw [height_node, height_node]
    omega
  · rw [if_neg hh]
    have := height_upd s k o (h / 2)
    rw [height_node, height_node]
    omega
end Tri
end Go.Proofs.YtijhamllnnilbaaGreatDoor.Ha
namespace Go.Proofs.YtijhamllnnilbaaGreatDoor.Gr
open Go.RowKit Go.Proofs.YtijhamllnnilbaaGreatDoor.Mem Go.Proofs.YtijhamllnnilbaaGreatDoor.Pg Go.Proofs.YtijhamllnnilbaaGreatDoor.Kp
set_option linter.unusedSimpArgs false
set_option linter.unusedVariables false

theorem Shows.parts {b : List UInt8} {p : Pag} (h : Shows b p) : b[2]? = some (UInt8.ofNat p.k.toNat) ∧ b[3]? = some (UInt8.ofNat p.d.toNat) ∧ b[4]? = some 0 ∧ b[5]? = some (UInt8.ofNat p.x.toNat) ∧ b.drop 16 = p.l := by
 rcases h with ⟨_, rfl⟩ | ⟨rfl, rfl⟩
 · exact ⟨p.at2, p.at3, p.at4, p.at5, Pag.body⟩
 · refine ⟨?_, ?_, ?_, ?_, ?_⟩
   · rw [zs, List.getElem?_replicate, if_pos (by omega)]; rfl
   · rw [zs, List.getElem?_replicate, if_pos (by omega)]; rfl
   · rw [zs, List.getElem?_replicate, if_pos (by omega)]
   · rw [zs, List.getElem?_replicate, if_pos (by omega)]; rfl
   · simp only [zs, List.drop_replicate, Pag.zero]
theorem byte_at {b : List UInt8} {i : Nat} {a : Int} (h0 : 0 ≤ a) (h1 : a < 256) (h : b[i]? = some (UInt8.ofNat a.toNat)) (hi : i < (str b).size) : (((str b)[i]'hi).toNat : Int) = a := by
 have hl : i < b.length := by rw [← str_size b]; exact hi
 have h2 : b[i] = UInt8.ofNat a.toNat := by
  rw [List.getElem?_eq_getElem hl] at h
  exact Option.some.inj h
 have h3 : (str b)[i]'hi = b[i] := rfl
 rw [h3, h2, small_nat h0 h1]
theorem second_new (w : World) (o u : Obj) : ((w.alloc o).alloc u).drew.heap[w.heap.size + 1]? = some u := by
 have h := heap_alloc_new (w.alloc o) u
 have hs : (w.alloc o).heap.size = w.heap.size + 1 := by simp
 rw [hs] at h
 exact h
theorem Pag.ok_mk {k d x : Int} {l : List UInt8} (h1 : 0 ≤ k ∧ k < 6) (h2 : 0 ≤ d ∧ d ≤ 5) (h3 : 0 ≤ x ∧ x < 64) (h4 : l.length = 240) : Pag.ok ⟨k, d, x, l⟩ := ⟨h1.1, h1.2, h2.1, h2.2, h3.1, h3.2, h4⟩
theorem or_zero (x : Int) (h0 : 0 ≤ x) (h1 : x < 256) : bits .or .i64 0 x = x := by
 obtain ⟨n, rfl⟩ := Int.eq_ofNat_of_zero_le h0
 have h2 : (BitVec.ofInt 64 (n : Int)).toNat = n := by
  rw [BitVec.ofInt_natCast, BitVec.toNat_ofNat]; exact Nat.mod_eq_of_lt (by omega)
 have h3 : (BitVec.ofInt 64 (0 : Int)).toNat = 0 := by decide
 show IntKind.i64.wrap ((BitVec.ofInt 64 (0 : Int) ||| BitVec.ofInt 64 (n : Int)).toNat : Int) = _
 rw [BitVec.toNat_or, h2, h3, Nat.zero_or, IntWalk.i64_in _ (by omega)]
theorem cut_16 (b : List UInt8) (h : b.length = 256) : (str b).extract 16 (str b).size = str (b.drop 16) := by
 apply ByteArray.ext
 apply Array.toList_inj.1
 simp [ByteArray.data_extract, str_size]
 rw [List.take_of_length_le (by simp)]

set_option maxRecDepth 100000 in
set_option maxHeartbeats 4000000 in
theorem get_any (b : List UInt8) (p : Pag) (w : World) (ht : Tab w) (h : Shows b p) :
 Calls Tryz.prog 152 #[.string (str b)] w fun e w' => e = .returned (.tuple #[p.v, .bool true]) ∧ Below w.heap.size w w' := by
 have hok := h.ok
 obtain ⟨p2, p3, p4, p5, pb⟩ := h.parts
 have hlen := h.len
 have hcut := cut_16 b hlen
 rw [pb] at hcut
 have hput := put_yes p
 obtain ⟨k, d, x, l⟩ := p
 obtain ⟨k0, k1, d0, d1, x0, x1, hl⟩ := hok
 simp only at k0 k1 d0 d1 x0 x1 hl p2 p3 p5 pb hcut
 have s2 := byte_at (i := 2) k0 (by omega) p2
 have s3 := byte_at (i := 3) d0 (by omega) p3
 have s4 := byte_at (i := 4) (a := 0) (by omega) (by omega) p4
 have s5 := byte_at (i := 5) x0 (by omega) p5
 have hor := or_zero x x0 (by omega)
 obtain ⟨S, hS⟩ : ∃ S, S = str b := ⟨_, rfl⟩
 obtain ⟨T, hT⟩ : ∃ T, T = str l := ⟨_, rfl⟩
 have hSs : S.size = 256 := by rw [hS, str_size]; exact hlen
 simp only [Pag.v] at hput ⊢
 rw [← hS] at s2 s3 s4 s5 hcut ⊢
 rw [← hT] at hcut hput ⊢
 rw [hSs] at hcut
 have Hs := Lib.hid hS
 have HT := Lib.hid hT
 have Hh := Lib.hid h
 have Hk := Lib.hid (And.intro k0 k1)
 have Hl := Lib.hid hl
 have Hd := Lib.hid (And.intro d0 d1)
 have Hx := Lib.hid (And.intro x0 x1)
 have i2 : IntKind.i64.wrap k = k := IntWalk.i64_in _ (by omega)
 have i3 : IntKind.i64.wrap d = d := IntWalk.i64_in _ (by omega)
 have i5 : IntKind.i64.wrap x = x := IntWalk.i64_in _ (by omega)
 have hz : ∀ w, Calls Tryz.prog 131 #[.int .i64 256] w fun e w' => e = .returned (.string (str (zs 256))) ∧ Below w.heap.size w w' := fun w => zeros_any 256 w (by omega)
 clear p2 p3 p4 p5 pb k0 k1 d0 d1 x0 x1 hl hS hT h hlen
 go_enter Tryz.func152, Tryz.ntmps152
 go_wp2_with fail
 go_region
 go_wp2_with fail
 with_reducible refine (hz _).mono ?_
 rintro e w1 ⟨rfl, hb1⟩
 have q2 : w1.heap[w.heap.size]? = some (.cells #[.int .i64 0, .int .i64 0, .int .i64 0, .string ⟨#[]⟩] 113 (0, 0)) := (hb1.block _ (by simp; omega)).trans (hal (heap_alloc_new w _))
 have q4 : w1.heap[w.heap.size + 1]? = some (.cells #[.int .i64 k, .int .i64 d, .int .i64 x, .string T] 113 (0, 0)) := (hb1.block _ (by simp)).trans (second_new w _ _)
 have hbb : Below w.heap.size w w1 := below_base (a := ((w.alloc (.cells #[.int .i64 0, .int .i64 0, .int .i64 0, .string ⟨#[]⟩] 113)).alloc (.cells #[.int .i64 k, .int .i64 d, .int .i64 x, .string T] 113)).drew) (below_dr (below_al (below_al (Below.refl _ w) _) _)) (by simp; omega) hb1
 have c2 := blk_cell q2
 have f2 := blk_free q2
 have z2 := lt_of_block q2
 have c4 := blk_cell q4
 have z4 := lt_of_block q4
 have hT1 : Tab w1 := ht.below hbb
 obtain ⟨Z, hZ⟩ : ∃ Z, Z = str (zs 256) := ⟨_, rfl⟩
 rw [← hZ]
 clear hb1 s2 s3 s4 s5
 rcases Hh.out with ⟨_, hbb2⟩ | ⟨hbb2, _⟩
 · have hne : (S.toList == Z.toList) = false := (Lib.bytes_beq_false_iff _ _).2 (fun e => by
    rw [Hs.out, hZ, hbb2] at e
    have e := congrArg (fun t : ByteArray => t.data.toList) e
    exact Pag.bytes_ne _ e)
   have hpb : str (Pag.bytes ⟨k, d, x, l⟩) = S := by rw [Hs.out, hbb2]
   have hee : (S.toList == S.toList) = true := by simp
   rw [hpb] at hput
   clear hZ hbb2 hpb
   go_wp2_with fail
   with_reducible refine (hput _ hT1 (Pag.ok_mk Hk.out Hd.out Hx.out Hl.out)).mono ?_
   rintro e w2 ⟨rfl, hb2⟩
   have r2 := blk_keep q2 hb2
   have r4 := blk_keep q4 hb2
   have hbc := below_tr hbb hb2
   clear c2 f2 z2 c4 z4
   have c2 := blk_cell r2
   have f2 := blk_free r2
   have z2 := lt_of_block r2
   have c4 := blk_cell r4
   have z4 := lt_of_block r4
   clear q2 q4 hb2 r4
   go_wp2_with fail
   have c5 := blk_cell (set4_same r2 (.int .i64 k) (.int .i64 d) (.int .i64 x) (.string T))
   refine bodyPost_ret (v := .tuple #[.agg #[.int .i64 k, .int .i64 d, .int .i64 x, .string T], .bool true]) (by simp [results, Tryz.results152, go_sem, c2]) rfl ⟨rfl, ?_⟩
   exact below_set (below_set (below_set (below_set hbc (Nat.le_refl _)) (Nat.le_refl _)) (Nat.le_refl _)) (Nat.le_refl _)
 · have hne : (S.toList == Z.toList) = true := by
    have : S = Z := by rw [Hs.out, hZ, hbb2]
    rw [this]
    simp
   clear hZ hbb2 hput
   go_wp2_with fail
   refine bodyPost_ret (v := .tuple #[.agg #[.int .i64 k, .int .i64 d, .int .i64 x, .string T], .bool true]) (by simp [results, Tryz.results152, go_sem, c2]) rfl ⟨rfl, ?_⟩
   exact below_set (below_set (below_set (below_set hbb (Nat.le_refl _)) (Nat.le_refl _)) (Nat.le_refl _)) (Nat.le_refl _)
end Go.Proofs.YtijhamllnnilbaaGreatDoor.Gr
namespace Go.Proofs.YtijhamllnnilbaaGreatDoor.Gr
open Go.RowKit Go.Proofs.YtijhamllnnilbaaGreatDoor.Mem Go.Proofs.YtijhamllnnilbaaGreatDoor.Pg Go.Proofs.YtijhamllnnilbaaGreatDoor.Kp

theorem ikeyed : Maps.Keyed Tryz.prog 3 := Maps.int_keyed Tryz.underlying3
theorem zero_str (w : World) : (zeroValue 9).run Tryz.prog w = .ok (.string ⟨#[]⟩) w := by kernel_rfl
abbrev kl (i : Int) : Lit := .int .i64 i
theorem kl_ne {i j : Int} (h : i ≠ j) : kl i ≠ kl j := fun e => h (by injection e)
theorem kl_wf {i : Int} (h0 : 0 ≤ i) (h1 : i < 64) : (Lit.int .i64 i).wf = true := by
 have h2 : IntKind.i64.min = -9223372036854775808 := rfl
 have h3 : IntKind.i64.max = 9223372036854775807 := rfl
 simp only [Lit.wf, h2, h3, Bool.and_eq_true, decide_eq_true_eq]
 omega
theorem nodup_le : ∀ (m : Nat) (ks : List Int), ks.Nodup → (∀ i ∈ ks, 0 ≤ i ∧ i < m) → ks.length ≤ m
 | 0, ks, _, h => by
  cases ks with
  | nil => simp
  | cons a r => have := h a (by simp); omega
 | m + 1, ks, hn, h => by
  by_cases hm : (m : Int) ∈ ks
  · have h1 := nodup_le m (ks.erase (m : Int)) (hn.erase _) (fun i hi => by
     have h2 := hn.mem_erase_iff.1 hi
     have h3 := h i h2.2
     have h4 := h2.1
     omega)
    rw [List.length_erase_of_mem hm] at h1
    omega
  · have h1 := nodup_le m ks hn (fun i hi => by
     have h3 := h i hi
     have h4 : i ≠ m := fun e => hm (e ▸ hi)
     omega)
    omega

structure MapIs (w : World) (b : Nat) (F : Int → Option (List UInt8)) : Prop where
 ex : ∃ (D : DataW Unit) (ks : List Int), w.ownsMap Tryz.prog 3 (plainElem Tryz.prog 9) b (Maps.size D) D ∧ ks.Nodup ∧ Maps.size D = ks.length ∧ (∀ i, i ∈ ks ↔ F i ≠ none) ∧ (∀ i, Maps.has D (kl i) = (F i).isSome) ∧ ∀ i l, F i = some l → D.atKey (kl i) (.lit (.string [])) = .lit (.string l)
 rng : ∀ i l, F i = some l → 0 ≤ i ∧ i < 64 ∧ l.length ≤ 1000000
def upd (F : Int → Option (List UInt8)) (i : Int) (l : List UInt8) : Int → Option (List UInt8) := fun j => if j = i then some l else F j
theorem upd_same (F : Int → Option (List UInt8)) (i : Int) (l : List UInt8) : upd F i l i = some l := if_pos rfl
theorem upd_other (F : Int → Option (List UInt8)) {i j : Int} (l : List UInt8) (h : j ≠ i) : upd F i l j = F j := if_neg h

theorem owns_tight {w : World} {b n : Nat} {D : DataW Unit} {k : TypeId} {R : Value → Option (DataW Unit × List MemPlace)} (h : w.ownsMap Tryz.prog k R b n D) : w.ownsMap Tryz.prog k R b (Maps.size D) D := by
 obtain ⟨es, clock, hb, F, _, rfl⟩ := h
 refine ⟨es, clock, hb, F, ?_, rfl⟩
 rw [Maps.size_eq, length_read]
 exact Nat.le_refl _
theorem owns_block {w w' : World} {b n : Nat} {D : DataW Unit} {k : TypeId} {R : Value → Option (DataW Unit × List MemPlace)} (h : w.ownsMap Tryz.prog k R b n D) (e : w'.heap[b]? = w.heap[b]?) : w'.ownsMap Tryz.prog k R b n D := by
 obtain ⟨es, clock, hb, F, hs, rfl⟩ := h
 exact ⟨es, clock, e.trans hb, F, hs, rfl⟩

section
variable {w w' : World} {b : Nat} {F : Int → Option (List UInt8)}
theorem MapIs.lt (h : MapIs w b F) : b < w.heap.size := by
 obtain ⟨D, ks, ho, _⟩ := h.ex
 exact ho.lt
theorem MapIs.block (h : MapIs w b F) (e : w'.heap[b]? = w.heap[b]?) : MapIs w' b F := by
 obtain ⟨D, ks, ho, rest⟩ := h.ex
 exact ⟨⟨D, ks, owns_block ho e, rest⟩, h.rng⟩
theorem MapIs.made (w : World) : MapIs (w.alloc (.map #[] 0)) w.heap.size (fun _ => none) := by
 refine ⟨⟨.map [], [], World.ownsMap_made w _ _ _, List.nodup_nil, rfl, by simp, ?_, ?_⟩, ?_⟩
 · intro i; rfl
 · intro i l h; cases h
 · intro i l h; cases h
theorem MapIs.look (h : MapIs w b F) (i : Int) (hi : (Lit.int .i64 i).wf = true) :
 (Instr.lookup 117 (.map (some b)) (.int .i64 i) true).run Tryz.prog w = .ok (.tuple #[.string (str ((F i).getD [])), .bool (F i).isSome]) w := by
 obtain ⟨D, ks, ho, hn, hsz, hks, hhas, hat⟩ := h.ex
 have hz := plainElem_string (H := Unit) (P := Tryz.prog) (e := 9) Tryz.underlying9 (s := ⟨#[]⟩) (by simp [ByteArray.size, maxLen])
 obtain ⟨v, ps, hrun, hv⟩ := ho.look_ok ikeyed Tryz.underlying117 (zero_str w) hz (Maps.keyOf_int_mk Tryz.underlying3 hi)
 rw [hhas i] at hrun
 obtain ⟨s, rfl, hs, _⟩ := plainElem_string_inv Tryz.underlying9 hv
 have hs1 : D.atKey (kl i) (.lit (.string [])) = .lit (.string s.data.toList) := (Prod.mk.inj hs).1
 rcases e : F i with _ | l
 · rw [e] at hrun
   have h1 : Maps.has D (kl i) = false := by rw [hhas i, e]; rfl
   rw [Maps.atKey_of_not_has h1] at hs1
   simp only [DataW.lit.injEq, Lit.string.injEq] at hs1
   have hs2 : s = str s.data.toList := str_of s
   rw [← hs1] at hs2
   rw [hs2] at hrun
   simp only [Option.getD_none, Option.isSome_none] at hrun ⊢
   exact hrun
 · rw [e] at hrun
   rw [hat i l e] at hs1
   simp only [DataW.lit.injEq, Lit.string.injEq] at hs1
   have hs2 : s = str s.data.toList := str_of s
   rw [← hs1] at hs2
   rw [hs2] at hrun
   simp only [Option.getD_some, Option.isSome_some] at hrun ⊢
   exact hrun
theorem MapIs.put (h : MapIs w b F) (i : Int) (h0 : 0 ≤ i) (h1 : i < 64) (l : List UInt8) (hl : l.length ≤ 1000000) :
 ∃ w', (Instr.mapUpdate 117 (.map (some b)) (.int .i64 i) (.string (str l))).run Tryz.prog w = .ok () w' ∧ MapIs w' b (upd F i l) ∧ w.grownBy w' (some b) := by
 obtain ⟨D, ks, ho, hn, hsz, hks, hhas, hat⟩ := h.ex
 have hwf := kl_wf h0 h1
 have hlen : ks.length ≤ 64 := nodup_le 64 ks hn (fun j hj => by
  rcases e : F j with _ | l'
  · exact absurd e ((hks j).1 hj)
  · have := h.rng j l' e
    exact ⟨this.1, this.2.1⟩)
 have hkey := Maps.keyOf_int_mk Tryz.underlying3 hwf
 have hisk : WideAt.IsKeyLit (kl i) := ikeyed.key hkey
 have hv : plainElem (H := Unit) Tryz.prog 9 (.string (str l)) = some (.lit (.string l), []) := plainElem_string Tryz.underlying9 (by rw [str_size]; unfold maxLen; omega)
 obtain ⟨w', hrun, hown, hg⟩ := ho.update ikeyed Tryz.underlying117 (by rw [hsz]; unfold maxLen; omega) hkey hv
 have htidy := ho.tidy ikeyed
 have hsz' := Maps.size_put (k := kl i) htidy (.lit (.string l))
 refine ⟨w', hrun, ⟨⟨D.put (kl i) (.lit (.string l)), if F i = none then i :: ks else ks, owns_tight hown, ?_, ?_, ?_, ?_, ?_⟩, ?_⟩, hg⟩
 · split
   · rename_i e
     exact List.nodup_cons.2 ⟨fun hi => (hks i).1 hi e, hn⟩
   · exact hn
 · rw [hsz', hhas i]
   rcases e : F i with _ | l'
   · simp [hsz]
   · simp [hsz]
 · intro j
   by_cases hj : j = i
   · subst hj
     rw [upd_same]
     split
     · simp
     · rename_i e
       simpa using (hks j).2 e
   · rw [upd_other _ _ hj, ← hks j]
     split
     · simp [hj]
     · exact Iff.rfl
 · intro j
   by_cases hj : j = i
   · subst hj
     rw [upd_same, Maps.has_put_same htidy.isMap hisk]
     rfl
   · rw [upd_other _ _ hj, Maps.has_put_other (kl_ne hj)]
     exact hhas j
 · intro j l' hjl
   by_cases hj : j = i
   · subst hj
     rw [upd_same] at hjl
     rw [Maps.atKey_put_same htidy.isMap hisk, Option.some.inj hjl]
   · rw [upd_other _ _ hj] at hjl
     rw [Maps.atKey_put_other (kl_ne hj)]
     exact hat j l' hjl
 · intro j l' hjl
   by_cases hj : j = i
   · subst hj
     rw [upd_same] at hjl
     rw [← Option.some.inj hjl]
     exact ⟨h0, h1, hl⟩
   · rw [upd_other _ _ hj] at hjl
     exact h.rng j l' hjl
end
end Go.Proofs.YtijhamllnnilbaaGreatDoor.Gr
namespace Go.Proofs.YtijhamllnnilbaaGreatDoor.Gr
open Go.RowKit Go.Proofs.YtijhamllnnilbaaGreatDoor.Mem Go.Proofs.YtijhamllnnilbaaGreatDoor.Pg Go.Proofs.YtijhamllnnilbaaGreatDoor.Kp
set_option linter.unusedSimpArgs false
set_option linter.unusedVariables false

structure Sto (w : World) (sb qb n c : Nat) (dead : Int) (B : Nat → List UInt8) : Prop where
 sto : w.heap[sb]? = some (.cells #[.slice (some ⟨qb, 0, none⟩) n c, .int .i64 dead] 115 (0, 0))
 pgs : ∃ cs, w.heap[qb]? = some (.cells cs 9 (0, 0)) ∧ ∀ i, i < n → cs[i]? = some (.string (str (B i)))
 le : n ≤ 64
 ne : sb ≠ qb
 sm : ∀ i, i < n → (B i).length ≤ 1000
def rd (n : Nat) (dead : Int) (B : Nat → List UInt8) (i : Int) : List UInt8 × Int := if i = dead then ([], 10) else if 0 ≤ i ∧ i < n then (B i.toNat, 0) else ([], 12)
section
variable {w w' : World} {sb qb n c : Nat} {dead : Int} {B : Nat → List UInt8}
theorem Sto.block (h : Sto w sb qb n c dead B) (e1 : w'.heap[sb]? = w.heap[sb]?) (e2 : w'.heap[qb]? = w.heap[qb]?) : Sto w' sb qb n c dead B := by
 obtain ⟨cs, h1, h2⟩ := h.pgs
 exact ⟨e1.trans h.sto, ⟨cs, e2.trans h1, h2⟩, h.le, h.ne, h.sm⟩
theorem Sto.lt1 (h : Sto w sb qb n c dead B) : sb < w.heap.size := lt_of_block h.sto
theorem Sto.lt2 (h : Sto w sb qb n c dead B) : qb < w.heap.size := by
 obtain ⟨cs, h1, _⟩ := h.pgs
 exact lt_of_block h1
theorem Sto.below (h : Sto w sb qb n c dead B) (k : Below w.heap.size w w') : Sto w' sb qb n c dead B := h.block (k.block _ h.lt1) (k.block _ h.lt2)
theorem Sto.keep {S : Nat → Prop} (h : Sto w sb qb n c dead B) (k : Keep S w w') (h1 : ¬ S sb) (h2 : ¬ S qb) : Sto w' sb qb n c dead B := h.block (k.block _ h.lt1 h1) (k.block _ h.lt2 h2)
end
set_option maxRecDepth 100000 in
theorem read_any (w : World) (sb qb n c : Nat) (dead : Int) (B : Nat → List UInt8) (i : Int) (h : Sto w sb qb n c dead B) :
 Calls Tryz.prog 16 #[.pointer (some ⟨sb, 0, none⟩), .int .i64 i] w fun e w' => e = .returned (.tuple #[.string (str (rd n dead B i).1), .int .i64 (rd n dead B i).2]) ∧ w' = w := by
 have hs := h.sto
 have h64 := h.le
 obtain ⟨cs, hq, hcs⟩ := h.pgs
 have c1 := blk_cell hs
 have z1 := lt_of_block hs
 have z2 := lt_of_block hq
 by_cases hd : i = dead
 · have e : rd n dead B i = ([], 10) := if_pos hd
   rw [e]
   have d1 : (i == dead) = true := by simpa using hd
   have d1' : decide (i = dead) = true := by simpa using hd
   clear hd hs hq hcs h e
   go_enter Tryz.func16, Tryz.ntmps16
   go_wp2_with fail
   go_ret2
   exact ⟨rfl, rfl⟩
 · have d1 : (i == dead) = false := by simpa using hd
   have d1' : decide (i = dead) = false := by simpa using hd
   by_cases h0 : i < 0
   · have e : rd n dead B i = ([], 12) := by unfold rd; rw [if_neg hd, if_neg (by omega)]
     rw [e]
     have d2 : decide (i < 0) = true := by simpa using h0
     clear hd hs hq hcs h e h0
     go_enter Tryz.func16, Tryz.ntmps16
     go_wp2_with fail
     go_ret2
     exact ⟨rfl, rfl⟩
   · have d2 : decide (i < 0) = false := by simpa using h0
     obtain ⟨j, rfl⟩ := Int.eq_ofNat_of_zero_le (show 0 ≤ i by omega)
     by_cases hn : j < n
     · have e : rd n dead B j = (B j, 0) := by unfold rd; rw [if_neg hd, if_pos ⟨by omega, by omega⟩, Int.toNat_natCast]
       rw [e]
       have c2 := (blk_cell hq j).trans (hcs j hn)
       have d3 : decide ((n : Int) ≤ (j : Int)) = false := by simp; omega
       have d3' : decide (n ≤ j) = false := by simp; omega
       obtain ⟨T, hT⟩ : ∃ T, T = str (B j) := ⟨_, rfl⟩
       simp only
       rw [← hT] at c2 ⊢
       clear hd hs hq hcs h e h0 hT
       go_enter Tryz.func16, Tryz.ntmps16
       go_wp2_with fail
       go_ret2
       exact ⟨rfl, rfl⟩
     · have e : rd n dead B j = ([], 12) := by unfold rd; rw [if_neg hd, if_neg (by omega)]
       rw [e]
       have d3 : decide ((n : Int) ≤ (j : Int)) = true := by simp; omega
       have d3' : decide (n ≤ j) = true := by simp; omega
       clear hd hs hq hcs h e h0
       go_enter Tryz.func16, Tryz.ntmps16
       go_wp2_with fail
       go_ret2
       exact ⟨rfl, rfl⟩

abbrev rdv (sb : Nat) : Value := .func (.func 16) #[.pointer (some ⟨sb, 0, none⟩)] #[]
structure Grp (w : World) (gb mb sb : Nat) (M : Int → Option (List UInt8)) (tk : Int) : Prop where
 grp : w.heap[gb]? = some (.cells #[rdv sb, .map (some mb), .int .i64 tk] 119 (0, 0))
 map : MapIs w mb M
section
variable {w w' : World} {gb mb sb : Nat} {M : Int → Option (List UInt8)} {tk : Int}
theorem Grp.lt1 (h : Grp w gb mb sb M tk) : gb < w.heap.size := lt_of_block h.grp
theorem Grp.lt2 (h : Grp w gb mb sb M tk) : mb < w.heap.size := h.map.lt
theorem Grp.block (h : Grp w gb mb sb M tk) (e1 : w'.heap[gb]? = w.heap[gb]?) (e2 : w'.heap[mb]? = w.heap[mb]?) : Grp w' gb mb sb M tk := ⟨e1.trans h.grp, h.map.block e2⟩
theorem Grp.below (h : Grp w gb mb sb M tk) (k : Below w.heap.size w w') : Grp w' gb mb sb M tk := h.block (k.block _ h.lt1) (k.block _ h.lt2)
theorem Grp.keep {S : Nat → Prop} (h : Grp w gb mb sb M tk) (k : Keep S w w') (h1 : ¬ S gb) (h2 : ¬ S mb) : Grp w' gb mb sb M tk := h.block (k.block _ h.lt1 h1) (k.block _ h.lt2 h2)
end
theorem func_not_nil (f : Fn) (a b : Array Value) (w : World) : (binOp BinOp.eql 116 (.func f a b) .nilFunc).run Tryz.prog w = .ok (.bool false) w := by kernel_rfl

set_option maxRecDepth 100000 in
theorem gnew_any (w : World) (sb : Nat) :
 Calls Tryz.prog 15 #[rdv sb] w fun e w' => ∃ gb mb, e = .returned (.pointer (some ⟨gb, 0, none⟩)) ∧ w.heap.size ≤ mb ∧ w.heap.size ≤ gb ∧ gb ≠ mb ∧ Below w.heap.size w w' ∧ Grp w' gb mb sb (fun _ => none) 0 := by
 have hnn := func_not_nil (.func 16) #[.pointer (some ⟨sb, 0, none⟩)] #[]
 have hmk : ∀ W : World, (Instr.makeMap 117 none).run Tryz.prog W = .ok (.map (some W.heap.size)) (W.alloc (.map #[] 0)) := fun W => run_makeMap _ W
 go_enter Tryz.func15, Tryz.ntmps15
 go_wp2_with fail
 go_ret
 refine ⟨w.heap.size + 1, w.heap.size, rfl, Nat.le_refl _, by omega, by omega, below_al (below_al (Below.refl _ w) _) _, ?_, ?_⟩
 · have := heap_alloc_new (w.alloc (.map #[] 0)) (.cells #[rdv sb, .map (some w.heap.size), .int .i64 0] 119)
   simpa using this
 · exact (MapIs.made w).block (heap_alloc_old _ _ (by simp))
end Go.Proofs.YtijhamllnnilbaaGreatDoor.Gr
