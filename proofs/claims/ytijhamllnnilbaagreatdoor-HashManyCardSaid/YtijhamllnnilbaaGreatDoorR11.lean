/- Lemmas of the claim, in their order:
- The pages of a bucket: a cell more, a key less. No program in sight.
- The contract of dir's of, at every page.
- The contract of the entries' page.
- The contracts of space.Used, space.Give.
-/
import Derived.Test.YtijhamllnnilbaaGreatDoorR09
import Derived.Test.YtijhamllnnilbaaGreatDoorR10
import Derived.Laws.BytesArg
import Derived.Test.YtijhamllnnilbaaGreatDoorR03
set_option linter.unusedVariables false
set_option linter.unusedSimpArgs false
namespace Go.Proofs.YtijhamllnnilbaaGreatDoor.Ha
open Go.RowKit Go.Proofs.YtijhamllnnilbaaGreatDoor.Mem Go.Proofs.YtijhamllnnilbaaGreatDoor.Pg Go.Proofs.YtijhamllnnilbaaGreatDoor.Gr
set_option linter.unusedVariables false
set_option linter.unusedSimpArgs false

def cellsP (ps : List (Nat × List Cel)) : List Cel := ps.flatMap (·.2)
theorem Lf.cells_eq (b : Lf) : b.cells = cellsP b.pgs := rfl
theorem cellsP_append (a b : List (Nat × List Cel)) : cellsP (a ++ b) = cellsP a ++ cellsP b := by simp [cellsP]
theorem cellsP_cons (a : Nat × List Cel) (b : List (Nat × List Cel)) : cellsP (a :: b) = a.2 ++ cellsP b := by simp [cellsP]
def cutP (k : List UInt8) (ps : List (Nat × List Cel)) : List (Nat × List Cel) := ps.map fun p => (p.1, cutK k p.2)
theorem cutP_len (k : List UInt8) (ps : List (Nat × List Cel)) : (cutP k ps).length = ps.length := by simp [cutP]
theorem cutP_nums (k : List UInt8) (ps : List (Nat × List Cel)) : (cutP k ps).map (·.1) = ps.map (·.1) := by simp [cutP]
theorem cutK_append (k : List UInt8) (a b : List Cel) : cutK k (a ++ b) = cutK k a ++ cutK k b := by simp [cutK]
theorem cutP_cells (k : List UInt8) : ∀ ps : List (Nat × List Cel), cellsP (cutP k ps) = cutK k (cellsP ps)
 | [] => rfl
 | p :: ps => by
  show cellsP ((p.1, cutK k p.2) :: cutP k ps) = _
  rw [cellsP_cons, cellsP_cons, cutK_append, cutP_cells k ps]
theorem cutK_same (k : List UInt8) (l : List Cel) : cutK k (cutK k l) = cutK k l := cut_none (fun ⟨c, h, e⟩ => (mem_cut.1 h).2 e)
theorem has_cut (k : List UInt8) (l : List Cel) : ¬ has k (cutK k l) := fun ⟨c, h, e⟩ => (mem_cut.1 h).2 e
theorem ins_cut {c : Cel} : ∀ {l : List Cel}, Sorted l → ins c (cutK c.key l) = ins c l
 | [], _ => rfl
 | a :: l, hs => by
  have hgt : ∀ x, x ∈ l → a.key < x.key := hs.head
  by_cases ha : a.key < c.key
  · have hne : a.key ≠ c.key := fun e => by rw [e] at ha; exact list_lt_irrefl _ ha
    have e : cutK c.key (a :: l) = a :: cutK c.key l := List.filter_cons_of_pos (by simpa using hne)
    rw [e]
    unfold ins
    rw [if_pos ha, if_pos ha, ins_cut hs.tail]
  · by_cases he : a.key = c.key
    · have e : cutK c.key (a :: l) = cutK c.key l := List.filter_cons_of_neg (by simpa using he)
      have hn : ¬ has c.key l := fun ⟨x, hx, e⟩ => ha (by rw [← e]; exact hs.head x hx)
      rw [e, cut_none hn]
      conv => rhs; unfold ins
      rw [if_neg ha, if_pos he]
      rcases l with _ | ⟨b, l⟩
      · rfl
      · have hb := hgt b (List.mem_cons_self ..)
        have h1 : ¬ b.key < c.key := fun h => list_lt_irrefl _ (list_lt_trans (he ▸ hb) h)
        have h2 : b.key ≠ c.key := fun h => by rw [h, he] at hb; exact list_lt_irrefl _ hb
        unfold ins
        rw [if_neg h1, if_neg h2]
    · have hn : ¬ has c.key (a :: l) := fun ⟨x, hx, e⟩ => by
       rcases List.mem_cons.1 hx with h | h
       · subst h; exact he e
       · exact ha (by rw [← e]; exact hs.head x h)
      rw [cut_none hn]
theorem ins_perm {c : Cel} : ∀ {l : List Cel}, ¬ has c.key l → (ins c l).Perm (c :: l)
 | [], _ => List.Perm.refl _
 | a :: l, h => by
  unfold ins
  have hne : a.key ≠ c.key := fun e => h ⟨a, List.mem_cons_self .., e⟩
  by_cases ha : a.key < c.key
  · rw [if_pos ha]
    exact ((ins_perm (fun ⟨x, hx, e⟩ => h ⟨x, List.mem_cons_of_mem _ hx, e⟩)).cons a).trans (List.Perm.swap c a l)
  · rw [if_neg ha, if_neg hne]
theorem cells_set {ps : List (Nat × List Cel)} {j : Nat} {n : Nat} {cs : List Cel} (h : ps[j]? = some (n, cs)) (cs' : List Cel) : ∃ A B, cellsP ps = A ++ (cs ++ B) ∧ cellsP (ps.set j (n, cs')) = A ++ (cs' ++ B) := by
 obtain ⟨hj, e⟩ := List.getElem?_eq_some_iff.1 h
 refine ⟨cellsP (ps.take j), cellsP (ps.drop (j + 1)), ?_, ?_⟩
 · conv => lhs; rw [← List.take_append_drop j ps]
   rw [cellsP_append, List.drop_eq_getElem_cons hj, cellsP_cons, e]
 · rw [List.set_eq_take_append_cons_drop, if_pos hj, cellsP_append, cellsP_cons]
theorem cells_ins {ps : List (Nat × List Cel)} {j : Nat} {n : Nat} {cs : List Cel} {x : Cel} (h : ps[j]? = some (n, cs)) (hx : ¬ has x.key cs) : (cellsP (ps.set j (n, ins x cs))).Perm (x :: cellsP ps) := by
 obtain ⟨A, B, h1, h2⟩ := cells_set h (ins x cs)
 rw [h1, h2]
 have e1 : (A ++ (ins x cs ++ B)).Perm (A ++ (x :: cs ++ B)) := List.Perm.append_left A ((ins_perm hx).append_right B)
 exact e1.trans (by simp)
theorem cutP_set {k : List UInt8} {ps : List (Nat × List Cel)} {j n : Nat} {cs : List Cel} (h : ps[j]? = some (n, cs)) (hk : ((cellsP ps).map Cel.key).Nodup) (hc : has k cs) : ps.set j (n, cutK k cs) = cutP k ps := by
 obtain ⟨hj, e⟩ := List.getElem?_eq_some_iff.1 h
 have hsplit : ps = ps.take j ++ (n, cs) :: ps.drop (j + 1) := by
  conv => lhs; rw [← List.take_append_drop j ps, List.drop_eq_getElem_cons hj, e]
 rw [hsplit, cellsP_append, cellsP_cons, List.map_append, List.map_append, List.nodup_append, List.nodup_append] at hk
 obtain ⟨c, hc1, hc2⟩ := hc
 have hcm : k ∈ cs.map Cel.key := List.mem_map.2 ⟨c, hc1, hc2⟩
 have none_of : ∀ qs : List (Nat × List Cel), (k ∉ (cellsP qs).map Cel.key) → cutP k qs = qs := by
  intro qs hq
  refine (List.map_congr_left (g := id) fun p hp => ?_).trans (List.map_id qs)
  show (p.1, cutK k p.2) = p
  rw [cut_none (fun ⟨c, h1, h2⟩ => hq (List.mem_map.2 ⟨c, List.mem_flatMap.2 ⟨p, hp, h1⟩, h2⟩))]
 have h1 : k ∉ (cellsP (ps.take j)).map Cel.key := fun hm => hk.2.2 k hm k (List.mem_append_left _ hcm) rfl
 have h2 : k ∉ (cellsP (ps.drop (j + 1))).map Cel.key := fun hm => hk.2.1.2.2 k hcm k hm rfl
 rw [List.set_eq_take_append_cons_drop, if_pos hj]
 conv => rhs; rw [hsplit]
 unfold cutP
 rw [List.map_append, List.map_cons]
 have e1 := none_of _ h1
 have e2 := none_of _ h2
 unfold cutP at e1 e2
 rw [e1, e2]
theorem cutP_none {k : List UInt8} {ps : List (Nat × List Cel)} (h : ∀ p, p ∈ ps → ¬ has k p.2) : cutP k ps = ps := by
 refine (List.map_congr_left (g := id) fun p hp => ?_).trans (List.map_id ps)
 show (p.1, cutK k p.2) = p
 rw [cut_none (h p hp)]
end Go.Proofs.YtijhamllnnilbaaGreatDoor.Ha
namespace Go.Proofs.YtijhamllnnilbaaGreatDoor.Dr
open Go.RowKit Go.Proofs.YtijhamllnnilbaaGreatDoor.Mem Go.Proofs.YtijhamllnnilbaaGreatDoor.Pg

theorem wrap_small (z : Int) (h : 0 ≤ z ∧ z ≤ 1000) : wrap64 z = z ∧ IntKind.i64.wrap z = z := ⟨IntWalk.wrap64_in _ (by omega), IntWalk.i64_in _ (by omega)⟩
theorem pow_small (m : Nat) (h : m ≤ 5) : (2 : Int) ^ ((m : Int).toNat) = ((2 ^ m : Nat) : Int) ∧ 1 ≤ 2 ^ m ∧ 2 ^ m ≤ 32 := by
 rw [Int.toNat_natCast]
 match m, h with
 | 0, _ | 1, _ | 2, _ | 3, _ | 4, _ | 5, _ => simp
theorem of_any (k d x : Int) (l : List UInt8) (w : World) :
 Calls Tryz.prog 187 #[.agg #[.int .i64 k, .int .i64 d, .int .i64 x, .string (str l)]] w (OfPost w k d l) := by
 by_cases h : k = 1 ∧ 0 ≤ d ∧ d ≤ 5 ∧ l.length = 240
 · obtain ⟨rfl, h0, h5, hl240⟩ := h
   obtain ⟨m, rfl⟩ := Int.eq_ofNat_of_zero_le h0
   obtain ⟨e, h1, h2⟩ := pow_small m (by omega)
   refine of_body m x l (2 ^ m) w h0 h5 hl240 (by rw [Int.toNat_natCast]) h1 h2 ?_ ?_ ?_
   · rw [e]; exact (wrap_small _ (by omega)).1
   · rw [e]
     generalize 2 ^ m = q at *
     rw [(wrap_small _ (by omega)).1]
     omega
   · rw [e]
     generalize 2 ^ m = q at *
     rw [(wrap_small _ (by omega)).2]
     omega
 · exact of_head k d x l w (by omega)
end Go.Proofs.YtijhamllnnilbaaGreatDoor.Dr
namespace Go.Proofs.YtijhamllnnilbaaGreatDoor.Dr
open Go.RowKit Go.Proofs.YtijhamllnnilbaaGreatDoor.Mem Go.Proofs.YtijhamllnnilbaaGreatDoor.Pg

theorem info_byte : (Tryz.prog.info? 5).map (fun i => (i.zero, i.size, i.bytes)) = some (some (.int .u8 0), 1, 1) := by kernel_rfl
def nums (xs : List Int) : List Int := xs.flatMap fun x => [0, x]
theorem nums_len (xs : List Int) : (nums xs).length = 2 * xs.length := by
 induction xs with
 | nil => rfl
 | cons x xs ih => rw [nums, List.flatMap_cons, List.length_append, ← nums, ih]; simp; omega
theorem nums_snoc (xs : List Int) (x : Int) : nums (xs ++ [x]) = nums xs ++ [0, x] := by simp [nums]
def encL (xs : List Int) : List UInt8 := (nums xs).map fun x => UInt8.ofNat x.toNat
theorem encL_len (xs : List Int) : (encL xs).length = 2 * xs.length := by rw [encL, List.length_map, nums_len]
def u8s (l : List Int) : List Value := l.map (Value.int .u8)
def bodyOf (xs : List Int) : List UInt8 := encL xs ++ zs (240 - 2 * xs.length)

set_option maxRecDepth 100000 in
set_option maxHeartbeats 4000000 in
theorem page_any (k d x m dep : Int) (s : ByteArray) (A : Option Addr) (n cap : Nat) (xs : List Int) (w : World) (hz : Ints w A n xs) (hm : ∀ y ∈ xs, mayP y) (hn1 : 1 ≤ n) (hn : n ≤ 32) :
 Calls Tryz.prog 164 #[.agg #[.slice A n cap, .int .i64 m], .agg #[.int .i64 k, .int .i64 d, .int .i64 x, .string s], .int .i64 dep] w fun e w' =>
  e = .returned (.agg #[.int .i64 k, .int .i64 dep, .int .i64 x, .string (str (bodyOf xs))]) ∧ Below w.heap.size w w' := by
 obtain ⟨b, off, rfl, hbl, hcell⟩ := hz.2.2 (by omega)
 have hxl := hz.1
 obtain ⟨i0, hif, hz0, hz1, hz2⟩ := info_parts info_byte
 have Hcell := Lib.hid hcell
 have Hm := Lib.hid hm
 have Hxl := Lib.hid hxl
 clear hcell hm hxl hz
 go_enter Tryz.func164, Tryz.ntmps164
 go_wp2_with fail
 go_loopw [7, 13] (fun v i wr => ∃ j : Nat, i = .int .i64 j ∧ j ≤ n ∧ wr.heap[w.heap.size + 1]? = some (.cells #[.int .i64 k, .int .i64 d, .int .i64 x, .string s] 113 (0, 0)) ∧ wr.heap[w.heap.size + 2]? = some (.cells #[.int .i64 0, .int .i64 0, .int .i64 0, .string ⟨#[]⟩] 113 (0, 0)) ∧ wr.ownsRow (w.heap.size + 3) 5 1 v (2 * j) (u8s (nums (xs.take j))) ∧ Below w.heap.size w wr) (fun _ i _ => n - (intOf i).toNat)
 case atStart =>
  refine ⟨0, rfl, Nat.zero_le _, hal ?_, ?_, World.ownsRow_nil _ _ _ _, below_al (below_al (below_al (Below.refl _ w) _) _) _⟩
  · have := heap_alloc_new (w.alloc (.cells #[.slice (some ⟨b, off, none⟩) n cap, .int .i64 m] 248)) (.cells #[.int .i64 k, .int .i64 d, .int .i64 x, .string s] 113)
    simpa using this
  · have := heap_alloc_new ((w.alloc (.cells #[.slice (some ⟨b, off, none⟩) n cap, .int .i64 m] 248)).alloc (.cells #[.int .i64 k, .int .i64 d, .int .i64 x, .string s] 113)) (.cells #[.int .i64 0, .int .i64 0, .int .i64 0, .string ⟨#[]⟩] 113)
    simpa using this
 case round =>
  obtain ⟨j, rfl, hj, hpg, hres, hown, hbel⟩ := hrel
  by_cases hlt : j < n
  · obtain ⟨X, hX⟩ : ∃ X, X = xs.getD j 0 := ⟨_, rfl⟩
    have hx := (hbel.cell (p := ⟨b, off + j, none⟩) hbl).trans (Hcell.out j hlt)
    rw [← hX] at hx
    have hXm : mayP X := by
     have h2 := Hxl.out
     refine Hm.out X (List.mem_iff_getElem?.2 ⟨j, ?_⟩)
     rw [hX, List.getD_eq_getElem?_getD, List.getElem?_eq_getElem (by omega), Option.getD_some]
    have hXr : 2 ≤ X ∧ X < 64 := hXm
    have q1 : X / 256 = 0 := by omega
    have q2 : IntKind.u8.wrap X = X := IntWalk.u8_in _ (by omega)
    have HX := Lib.hid hX
    clear hX hXm
    go_wp2_with (at_builtin; refine wpList_append_own _ rfl (.tmp 17) (.tmp 23) _ rfl (w.heap.size + 3) 5 i0 (.int .u8 0) 1 1 Tryz.underlying43 hif hz0 hz1 hz2 rfl (by decide) _ (2 * j) (u8s (nums (xs.take j))) rfl (hown.alloc _) ⟨wr.heap.size, 0, none⟩ 2 2 [.int .u8 0, .int .u8 X] rfl rfl (cells_new _ _ rfl [.int .u8 0, .int .u8 X] _) (by intro u hu; simp at hu; rcases hu with rfl | rfl <;> rfl) (by unfold maxLen; omega) (by omega) (by have := lt_of_block hres; simp; omega) ?_; intro v' w4 hown4 hgrow _)
    have hg4 : (wr.alloc (.cells #[.int .u8 0, .int .u8 X] 5)).grownBy w4 u7.ownBlock := hgrow
    have hts : xs.take (j + 1) = xs.take j ++ [X] := by
     have h2 := Hxl.out
     have h3 := HX.out
     rw [List.take_add_one, List.getElem?_eq_getElem (by omega), Option.toList_some, h3, List.getD_eq_getElem?_getD, List.getElem?_eq_getElem (by omega), Option.getD_some]
    have hr' := keep_grown (W := wr.alloc (.cells #[.int .u8 0, .int .u8 X] 5)) hown hg4 (by omega) (hal hres)
    have hp' := keep_grown (W := wr.alloc (.cells #[.int .u8 0, .int .u8 X] 5)) hown hg4 (by omega) (hal hpg)
    go_roundw
    case rel => exact ⟨j + 1, by go_num, by omega, hp', hr', by rw [hts, nums_snoc]; simpa [u8s, Nat.mul_add] using hown4, below_grown (below_al hbel _) (Nat.le_trans hbel.size (by simp)) (own_weaken hown (by omega)) hg4⟩
    case measure => simp [intOf]; omega
  · obtain rfl : j = n := by omega
    obtain ⟨g, c, rfl, hg, hgl⟩ := hown.form (by omega)
    have htk : xs.take j = xs := List.take_of_length_le (by have := Hxl.out; omega)
    rw [htk] at hown
    obtain ⟨N2, hN2⟩ : ∃ N2, N2 = 2 * j := ⟨_, rfl⟩
    rw [← hN2] at hown ⊢
    obtain ⟨M, hM⟩ : ∃ M, M = 240 - N2 := ⟨_, rfl⟩
    have hc1 := blk_cell hpg 1
    have hf1 := blk_free hpg 1
    have hz1 := lt_of_block hpg
    have hpg1 := heap_setCell_same wr (w.heap.size + 1) 1 _ _ (.int .i64 dep) hpg
    have hres1 := (heap_setCell_other wr ⟨w.heap.size + 1, 1, none⟩ (w.heap.size + 2) (.int .i64 dep) (show w.heap.size + 2 ≠ w.heap.size + 1 by omega)).trans hres
    have hbel1 := below_set (j := 1) (u := .int .i64 dep) hbel (show w.heap.size ≤ w.heap.size + 1 by omega)
    have hgW : g < (wr.setCell ⟨w.heap.size + 1, 1, none⟩ (.int .i64 dep)).heap.size := by simpa using hgl
    have hnl : (nums xs).length = N2 := by rw [nums_len, Hxl.out, hN2]
    have hcl1 : ∀ i, i < N2 → (wr.setCell ⟨w.heap.size + 1, 1, none⟩ (.int .i64 dep)).cell? ⟨g, i, none⟩ = some (.int .u8 ((nums xs).getD i 0)) := fun i hi => by
     rw [World.cell?_setCell_other _ _ _ _ (fun e => by injection e with e1; omega)]
     refine own_at hown i _ ?_
     rw [u8s, List.getElem?_map, List.getElem?_eq_getElem (by omega), List.getD_eq_getElem?_getD, List.getElem?_eq_getElem (by omega)]
     rfl
    obtain ⟨R, hR⟩ : ∃ R, R = strOfNums (nums xs) := ⟨_, rfl⟩
    have hRs : R.size = N2 := by rw [hR, strOfNums_size, hnl]
    have hcvW : ∀ W : World, (∀ i, i < N2 → W.cell? ⟨g, i, none⟩ = some (.int .u8 ((nums xs).getD i 0))) → (convert 43 9 (.slice (some ⟨g, 0, none⟩) N2 c)).run Tryz.prog W = .ok (.string R) W := fun W h => by
     rw [hR]
     exact run_convert_bytes_arg (P := Tryz.prog) W 43 5 Tryz.underlying43 Tryz.underlying5 g 0 N2 c (nums xs) hnl (fun i hi => by rw [Nat.zero_add]; exact h i hi) 9 Tryz.underlying9
    have hrp := fun W => Tryz.strings_Repeat ⟨#[0]⟩ M W (by omega) (by show 1 * M ≤ _; omega)
    obtain ⟨Z, hZ⟩ : ∃ Z, Z = str (zs M) := ⟨_, rfl⟩
    have hrp' : ∀ W, Calls Tryz.prog 186 #[.string ⟨#[0]⟩, .int .i64 M] W fun e w' => e = .returned (.string Z) ∧ Below W.heap.size W w' := fun W => (hrp W).mono (fun e w' h => ⟨by rw [h.1, hZ, zs, ← repeat_one], h.2⟩)
    have hZs : Z.size = M := by rw [hZ, str_size, zs, List.length_replicate]
    have r1 : IntKind.i64.wrap (240 - (N2 : Int)) = (M : Int) := by rw [IntWalk.i64_in _ (by omega)]; omega
    have hne : g ≠ w.heap.size + 1 := by omega
    have hN3 : N2 + M = 240 := by omega
    have HR := Lib.hid hR
    have HZ := Lib.hid hZ
    have HM := Lib.hid hM
    have HN2 := Lib.hid hN2
    clear hrp hR hZ hM hN2 hown
    have hrp := hrp'
    have HcvW := Lib.hid hcvW
    have Hcl1 := Lib.hid hcl1
    clear hrp' hcvW hcl1
    go_wp2_with fail
    refine wp_region_held_drew (S := fun W => (convert 43 9 (.slice (some ⟨g, 0, none⟩) N2 c)).run Tryz.prog W = .ok (.string R) W) (by kernel_rfl) (HcvW.out _ Hcl1.out) (fun hHeld => ?_)
    refine wpAnyH_take (i := 0) (v := ?_) rfl (by kernel_rfl) (by kernel_rfl) (by kernel_rfl) (fun _ _ _ h => h) (Or.inl ⟨by rfl, ?_⟩) hHeld ?_
    rotate_left
    · intro wq hSw
      try dsimp only at hSw
      go_simp
      try rw [if_neg (by omega)]
      try rw [if_pos (by omega)]
      try with_reducible rfl
    try simp only [Act.put, List.setIfInBounds_toArray, List.set_cons_zero, List.set_cons_succ]
    refine wpAnyH_take (i := 1) (v := ?_) rfl (by kernel_rfl) (by kernel_rfl) (by kernel_rfl) (fun _ _ _ h => h) (Or.inl ⟨by rfl, ?_⟩) hHeld ?_
    rotate_left
    · intro wq hSw
      try dsimp only at hSw
      go_simp
      try rw [if_neg (by omega)]
      try rw [if_pos (by omega)]
      try with_reducible rfl
    try simp only [Act.put, List.setIfInBounds_toArray, List.set_cons_zero, List.set_cons_succ]
    refine wpAnyH_take (i := 2) (v := ?_) rfl (by kernel_rfl) (by kernel_rfl) (by kernel_rfl) (fun _ _ _ h => h) (Or.inl ⟨by rfl, ?_⟩) hHeld ?_
    rotate_left
    · intro wq hSw
      try dsimp only at hSw
      go_simp
      try rw [if_neg (by omega)]
      try rw [if_pos (by omega)]
      try with_reducible rfl
    try simp only [Act.put, List.setIfInBounds_toArray, List.set_cons_zero, List.set_cons_succ]
    refine wpAnyH_take (i := 3) (v := ?_) rfl (by kernel_rfl) (by kernel_rfl) (by kernel_rfl) (fun _ _ _ h => h) (Or.inl ⟨by rfl, ?_⟩) hHeld ?_
    rotate_left
    · intro wq hSw
      try dsimp only at hSw
      go_simp
      try rw [if_neg (by omega)]
      try rw [if_pos (by omega)]
      try with_reducible rfl
    try simp only [Act.put, List.setIfInBounds_toArray, List.set_cons_zero, List.set_cons_succ]
    refine wpAnyH_take (i := 4) (v := ?_) rfl (by kernel_rfl) (by kernel_rfl) (by kernel_rfl) (fun _ _ _ h => h) (Or.inl ⟨by rfl, ?_⟩) hHeld ?_
    rotate_left
    · intro wq hSw
      try dsimp only at hSw
      go_simp
      try rw [if_neg (by omega)]
      try rw [if_pos (by omega)]
      try with_reducible rfl
    try simp only [Act.put, List.setIfInBounds_toArray, List.set_cons_zero, List.set_cons_succ]
    refine wpAnyH_ready (rs := [5]) (by kernel_rfl) (by simp) ?_
    refine AllReadyH.cons rfl (fun K hK => ?_) AllReadyH.nil
    go_simp
    with_reducible refine (hrp _).mono ?_
    rintro e w3 ⟨rfl, hb3⟩
    dsimp only
    have hb3' : Below (wr.setCell ⟨w.heap.size + 1, 1, none⟩ (.int .i64 dep)).heap.size (wr.setCell ⟨w.heap.size + 1, 1, none⟩ (.int .i64 dep)) w3 := ⟨hb3.os, hb3.tape, hb3.output, hb3.size, hb3.block⟩
    have hcl3 : Hid (∀ i, i < N2 → w3.cell? ⟨g, i, none⟩ = some (.int .u8 ((nums xs).getD i 0))) := fun i hi => (hb3'.cell (p := ⟨g, i, none⟩) hgW).trans (Hcl1.out i hi)
    have hpg3 := blk_keep hpg1 hb3'
    have hres3 := blk_keep hres1 hb3'
    have hbel3 := below_base hbel1 hbel1.size hb3'
    refine hK.out _ _ (HcvW.out _ hcl3.out) (fun hHeld2 => ?_)
    clear hK K
    try clear hHeld
    have hHeld := hHeld2
    try clear hHeld2
    refine wpAnyH_take (i := 6) (v := ?_) rfl (by kernel_rfl) (by kernel_rfl) (by kernel_rfl) (fun _ _ _ h => h) (Or.inl ⟨by rfl, ?_⟩) hHeld ?_
    rotate_left
    · intro wq hSw
      try dsimp only at hSw
      go_simp
      try rw [if_neg (by omega)]
      try rw [if_pos (by omega)]
      try with_reducible rfl
    try simp only [Act.put, List.setIfInBounds_toArray, List.set_cons_zero, List.set_cons_succ]
    refine wpAnyH_take (i := 7) (v := ?_) rfl (by kernel_rfl) (by kernel_rfl) (by kernel_rfl) (fun _ _ _ h => h) (Or.inl ⟨by rfl, ?_⟩) hHeld ?_
    rotate_left
    · intro wq hSw
      try dsimp only at hSw
      go_simp
      try rw [if_neg (by omega)]
      try rw [if_pos (by omega)]
      try with_reducible rfl
    try simp only [Act.put, List.setIfInBounds_toArray, List.set_cons_zero, List.set_cons_succ]
    have c3 := blk_cell hpg3 3
    have f3 := blk_free hpg3 3
    have z3 := lt_of_block hpg3
    refine wpAnyH_ready (rs := [8]) (by kernel_rfl) (by simp) ?_
    refine AllReadyH.cons rfl (fun K hK => ?_) AllReadyH.nil
    go_simp
    refine hK.out _ _ (HcvW.out _ (fun i hi => (World.cell?_setCell_other _ _ _ _ (fun e => by injection e with e1; omega)).trans (hcl3.out i hi))) (fun hHeld2 => ?_)
    clear hK K
    try clear hHeld
    have hHeld := hHeld2
    try clear hHeld2
    refine wpAnyH_done (by kernel_rfl) ?_ _
    have hpg4 := heap_setCell_same w3 (w.heap.size + 1) 3 _ _ (.string (R ++ Z)) hpg3
    have hres4 := (heap_setCell_other w3 ⟨w.heap.size + 1, 3, none⟩ (w.heap.size + 2) (.string (R ++ Z)) (show w.heap.size + 2 ≠ w.heap.size + 1 by omega)).trans hres3
    have hbel4 := below_set (j := 3) (u := .string (R ++ Z)) hbel3 (show w.heap.size ≤ w.heap.size + 1 by omega)
    have hRZ : Hid (R ++ Z = str (bodyOf xs)) := by
     show _ = _
     rw [HR.out, HZ.out, bodyOf, encL, strOfNums]
     apply ByteArray.ext
     apply Array.toList_inj.1
     have := Hxl.out
     simp [ByteArray.data_append, HM.out, HN2.out, this]
    clear hcl3 hpg3 hres3 hbel3 hb3 hb3' c3 f3 z3 hHeld hrp
    generalize w3.setCell ⟨w.heap.size + 1, 3, none⟩ (.string (R ++ Z)) = W4 at *
    obtain ⟨T, hT⟩ : ∃ T, T = R ++ Z := ⟨_, rfl⟩
    rw [← hT] at hpg4
    have k0 := blk_cell hpg4
    have k1 := lt_of_block hpg4
    have k2 := blk_cell hres4
    have k3 := blk_free hres4
    have k4 := lt_of_block hres4
    have HTT := Lib.hid hT
    clear hT
    go_wp2
    have hW : (set4 W4 (w.heap.size + 2) (.int .i64 k) (.int .i64 dep) (.int .i64 x) (.string T)).heap[w.heap.size + 2]? = _ := set4_same hres4 (.int .i64 k) (.int .i64 dep) (.int .i64 x) (.string T)
    have hB := below_set4 hbel4 (show w.heap.size ≤ w.heap.size + 2 by omega) (.int .i64 k) (.int .i64 dep) (.int .i64 x) (.string T)
    change bodyPost _ _ _ _ _ (set4 W4 (w.heap.size + 2) (.int .i64 k) (.int .i64 dep) (.int .i64 x) (.string T))
    generalize set4 W4 (w.heap.size + 2) (.int .i64 k) (.int .i64 dep) (.int .i64 x) (.string T) = W5 at *
    have j0 := blk_cell hW 0
    have j1 := blk_cell hW 1
    have j2 := blk_cell hW 2
    have j3 := blk_cell hW 3
    rw [HTT.out, hRZ.out] at j3
    clear hW k0 k2 k3
    refine bodyPost_ret (v := .agg #[.int .i64 k, .int .i64 dep, .int .i64 x, .string (str (bodyOf xs))]) ?_ rfl ⟨rfl, hB⟩
    rw [HTT.out, hRZ.out]
    generalize str (bodyOf xs) = Y at *
    simp [results, Tryz.results164, go_sem, j0, j1, j2, j3]
end Go.Proofs.YtijhamllnnilbaaGreatDoor.Dr
namespace Go.Proofs.YtijhamllnnilbaaGreatDoor.Sp
open Go.RowKit Go.Proofs.YtijhamllnnilbaaGreatDoor.Mem Go.Proofs.YtijhamllnnilbaaGreatDoor.Pg

def usedF (k : Int) (l : List UInt8) (n : Int) : Bool := decide (0 ≤ n) && (decide (n < (pagesF k l : Int)) && decide (bt l n.toNat = 1))
theorem usedF_iff (k : Int) (l : List UInt8) (n : Int) : usedF k l n = true ↔ 0 ≤ n ∧ n < (pagesF k l : Int) ∧ bt l n.toNat = 1 := by simp [usedF]

set_option maxRecDepth 100000 in
theorem used_any (k d x n : Int) (l : List UInt8) (w : World) (hl : l.length ≤ 1000000) :
 Calls Tryz.prog 70 #[.agg #[.int .i64 k, .int .i64 d, .int .i64 x, .string (str l)], .int .i64 n] w fun e w' =>
  e = .returned (.bool (usedF k l n)) ∧ Below w.heap.size w w' := by
 have hpg := fun w => pages_any k d x l w hl
 have hpl : pagesF k l ≤ l.length := by
  by_cases h : pagesF k l = 0
  · omega
  · have := pagesF_len k l h; have := pagesF_le k l; omega
 have hbt := str_bt l
 have hss := str_size l
 generalize hs : str l = s at hpg hbt hss ⊢
 clear hs
 by_cases h0 : 0 ≤ n
 · have d0 : decide (0 ≤ n) = true := by simpa using h0
   by_cases h1 : n < (pagesF k l : Int)
   · have d1 : decide (n < (pagesF k l : Int)) = true := by simpa using h1
     obtain ⟨m, rfl⟩ : ∃ m : Nat, n = m := ⟨n.toNat, by omega⟩
     have hm : m < s.size := by omega
     have hb := hbt m hm
     have hu : usedF k l m = decide (bt l m = 1) := by simp only [usedF, d0, d1, Bool.true_and, Int.toNat_natCast]
     have Hu := Lib.hid hu
     clear hu hbt
     have hm' : (m : Int) < (s.size : Int) := by omega
     go_enter Tryz.func70, Tryz.ntmps70
     go_wp2_with fail
     refine (hpg _).mono ?_
     rintro e w1 ⟨rfl, hb1⟩
     have hblk := blk_below hb1
     have hc := blk_cell hblk
     have hf := blk_free hblk
     have hsz := lt_of_block hblk
     have hbw := below_tr (below_al (Below.refl _ w) _) hb1
     clear hb1 hpg
     by_cases hone : bt l m = 1
     · have e1 : (bt l m == 1) = true := by simpa using hone
       have Ho := Lib.hid hone
       clear hone
       go_wp2
       go_ret
       exact ⟨by rw [Hu.out]; simp [Ho.out], hbw⟩
     · have e1 : (bt l m == 1) = false := by simpa using hone
       have Ho := Lib.hid hone
       clear hone
       go_wp2
       go_ret
       exact ⟨by rw [Hu.out]; simp [Ho.out], hbw⟩
   · have d1 : decide (n < (pagesF k l : Int)) = false := by simpa using h1
     have hu : usedF k l n = false := by simp only [usedF, d0, d1, Bool.true_and, Bool.false_and]
     go_enter Tryz.func70, Tryz.ntmps70
     go_wp2_with fail
     refine (hpg _).mono ?_
     rintro e w1 ⟨rfl, hb1⟩
     have hblk := blk_below hb1
     have hc := blk_cell hblk
     have hf := blk_free hblk
     have hsz := lt_of_block hblk
     have hbw := below_tr (below_al (Below.refl _ w) _) hb1
     clear hb1 hpg
     go_wp2
     go_ret
     exact ⟨by rw [hu]; rfl, hbw⟩
 · have d0 : decide (0 ≤ n) = false := by simpa using h0
   have hu : usedF k l n = false := by simp only [usedF, d0, Bool.false_and]
   go_enter Tryz.func70, Tryz.ntmps70
   go_wp2
   go_ret
   exact ⟨by first | rfl | (rw [hu]; rfl), below_al (Below.refl _ w) _⟩
end Go.Proofs.YtijhamllnnilbaaGreatDoor.Sp
