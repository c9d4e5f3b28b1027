/- Lemmas of the claim, in their order:
- The contracts of dir's All, Depth, At.
- The contract of dir's New; what a page of entries reads as.
- The contracts of a group's Put, Bytes.
-/
import Derived.Test.YtijhamllnnilbaaGreatDoorM08
import Derived.Test.YtijhamllnnilbaaGreatDoorM14
set_option linter.unusedVariables false
set_option linter.unusedSimpArgs false
namespace Go.Proofs.YtijhamllnnilbaaGreatDoor.Dr
open Go.RowKit Go.Proofs.YtijhamllnnilbaaGreatDoor.Mem Go.Proofs.YtijhamllnnilbaaGreatDoor.Pg

def AllPost (w : World) (k d : Int) (l : List UInt8) (e : Ending) (w' : World) : Prop :=
  (∃ n g cap, IsDir k d l n ∧ e = .returned (.slice (some ⟨g, 0, none⟩) n cap) ∧ w'.ownsRow w.heap.size 3 1 (.slice (some ⟨g, 0, none⟩) n cap) n (ints (ents l n)) ∧ g < w'.heap.size ∧ w.heap.size ≤ g ∧ Below w.heap.size w w') ∨
  ((∀ n, ¬ IsDir k d l n) ∧ e = .returned (.slice none 0 0) ∧ Below w.heap.size w w')
theorem al_le (w : World) (o : Obj) : w.heap.size ≤ (w.alloc o).heap.size := by simp
theorem below_box {w w1 : World} {o : Obj} (hb : Below (w.alloc o).heap.size (w.alloc o) w1) : Below w.heap.size w w1 := below_base (below_al (Below.refl _ w) o) (al_le w o) hb

set_option maxRecDepth 100000 in
set_option maxHeartbeats 2000000 in
theorem all_any (k d x : Int) (l : List UInt8) (w : World) :
    Calls Tryz.prog 147 #[.agg #[.int .i64 k, .int .i64 d, .int .i64 x, .string (str l)]] w (AllPost w k d l) := by
  have hof := fun w => of_any k d x l w
  generalize str l = S at *
  go_enter Tryz.func147, Tryz.ntmps147
  go_wp2_with fail
  with_reducible refine (hof _).mono ?_
  clear hof
  rintro e w1 (⟨n, g, cap, hd, rfl, hown, hgl, hgb, hb⟩ | ⟨hno, rfl, hb⟩)
  · go_wp2
    go_ret
    exact .inl ⟨n, g, cap, hd, rfl, own_weaken (hown.alloc _) (al_le _ _), lt_al hgl _, Nat.le_trans (al_le _ _) hgb, below_al (below_box hb) _⟩
  · have Hno := Lib.hid hno
    clear hno
    go_wp2
    go_ret
    exact .inr ⟨Hno.out, rfl, below_al (below_box hb) _⟩

set_option maxRecDepth 100000 in
set_option maxHeartbeats 2000000 in
theorem depth_any (k d x : Int) (l : List UInt8) (w : World) :
    Calls Tryz.prog 132 #[.agg #[.int .i64 k, .int .i64 d, .int .i64 x, .string (str l)]] w fun e w' =>
      ((∃ n, IsDir k d l n) ∧ e = .returned (.int .i64 d) ∨ (∀ n, ¬ IsDir k d l n) ∧ e = .returned (.int .i64 (-1))) ∧ Below w.heap.size w w' := by
  have hof := fun w => of_any k d x l w
  generalize hS : str l = S at *
  clear hS
  go_enter Tryz.func132, Tryz.ntmps132
  go_wp2_with fail
  with_reducible refine (hof _).mono ?_
  clear hof
  rintro e w1 (⟨n, g, cap, hd, rfl, hown, hgl, hgb, hb⟩ | ⟨hno, rfl, hb⟩)
  · have Hd := Lib.hid hd
    have hcb := blk_cell (blk_below hb)
    have hlb := lt_of_block (blk_below hb)
    clear hd hown
    go_wp2
    go_ret
    exact ⟨.inl ⟨⟨n, Hd.out⟩, rfl⟩, below_al (below_box hb) _⟩
  · have Hno := Lib.hid hno
    clear hno
    go_wp2
    go_ret
    exact ⟨.inr ⟨Hno.out, rfl⟩, below_al (below_box hb) _⟩

def AtPost (w : World) (k d : Int) (l : List UInt8) (bits : Int) (e : Ending) (w' : World) : Prop :=
  ((∃ n i : Nat, IsDir k d l n ∧ bits = i ∧ i < n ∧ e = .returned (.tuple #[.int .i64 (ent l i), .bool true])) ∨ ((∀ n, IsDir k d l n → bits < 0 ∨ n ≤ bits) ∧ e = .returned (.tuple #[.int .i64 0, .bool false]))) ∧ Below w.heap.size w w'
theorem isDir_same {k d : Int} {l : List UInt8} {n m : Nat} (h : IsDir k d l n) (h' : IsDir k d l m) : n = m := h.size.trans h'.size.symm

set_option maxRecDepth 100000 in
set_option maxHeartbeats 2000000 in
theorem at_any (k d x : Int) (l : List UInt8) (bits : Int) (w : World) :
    Calls Tryz.prog 133 #[.agg #[.int .i64 k, .int .i64 d, .int .i64 x, .string (str l)], .int .i64 bits] w (AtPost w k d l bits) := by
  have hof := fun w => all_any k d x l w
  generalize str l = S at *
  go_enter Tryz.func133, Tryz.ntmps133
  go_wp2_with fail
  with_reducible refine (hof _).mono ?_
  clear hof
  rintro e w1 (⟨n, g, cap, hd, rfl, hown, hgl, hgb, hb⟩ | ⟨hno, rfl, hb⟩)
  · by_cases h1 : bits < 0
    · have hpost : Hid (∀ m, IsDir k d l m → bits < 0 ∨ m ≤ bits) := fun m _ => .inl h1
      clear hd hown
      go_wp2
      go_ret2
      exact ⟨.inr ⟨hpost.out, rfl⟩, below_box hb⟩
    · obtain ⟨i, rfl⟩ := Int.eq_ofNat_of_zero_le (show 0 ≤ bits from by omega)
      by_cases h2 : i < n
      · have hce := own_at hown i (.int .i64 (ent l i)) (by simp [ints, ents, h2])
        have Hd := Lib.hid hd
        obtain ⟨X, hX⟩ : ∃ X, X = ent l i := ⟨_, rfl⟩
        rw [← hX] at hce
        have HX := Lib.hid hX
        clear hd hown hX
        go_wp2
        go_ret2
        exact ⟨.inl ⟨n, i, Hd.out, rfl, h2, by rw [← HX.out]; rfl⟩, below_box hb⟩
      · have hpost : Hid (∀ m, IsDir k d l m → (i : Int) < 0 ∨ (m : Int) ≤ i) := fun m hm => by have := isDir_same hd hm; omega
        clear hd hown
        go_wp2
        go_ret2
        exact ⟨.inr ⟨hpost.out, rfl⟩, below_box hb⟩
  · have hpost : Hid (∀ m, IsDir k d l m → bits < 0 ∨ m ≤ bits) := fun m hm => absurd hm (hno m)
    clear hno
    go_wp2
    all_goals go_ret2
    all_goals exact ⟨.inr ⟨hpost.out, rfl⟩, below_box hb⟩
end Go.Proofs.YtijhamllnnilbaaGreatDoor.Dr
namespace Go.Proofs.YtijhamllnnilbaaGreatDoor.Dr
open Go.RowKit Go.Proofs.YtijhamllnnilbaaGreatDoor.Mem Go.Proofs.YtijhamllnnilbaaGreatDoor.Pg

theorem nums_get (xs : List Int) : ∀ i, i < xs.length → (nums xs).getD (2 * i) 0 = 0 ∧ (nums xs).getD (2 * i + 1) 0 = xs.getD i 0 := by
  induction xs with
  | nil => intro i h; simp at h
  | cons x xs ih =>
    intro i h
    cases i with
    | zero => exact ⟨rfl, rfl⟩
    | succ i =>
      have := ih i (by simpa using h)
      rw [show 2 * (i + 1) = 2 * i + 2 from by omega]
      exact this
theorem ent_body (xs : List Int) (hm : ∀ y ∈ xs, mayP y) (i : Nat) (h : i < xs.length) : ent (bodyOf xs) i = xs.getD i 0 := by
  have hl : (nums xs).length = 2 * xs.length := nums_len xs
  have hg : ∀ j, j < 2 * xs.length → bt (bodyOf xs) j = (UInt8.ofNat ((nums xs).getD j 0).toNat).toNat := fun j hj => by
    unfold bt bodyOf encL
    rw [List.getD_eq_getElem?_getD, List.getElem?_append_left (by rw [List.length_map]; omega), List.getElem?_map, List.getElem?_eq_getElem (by omega), List.getD_eq_getElem?_getD, List.getElem?_eq_getElem (by omega)]
    rfl
  obtain ⟨h1, h2⟩ := nums_get xs i h
  have hy : mayP (xs.getD i 0) := hm _ (List.mem_iff_getElem?.2 ⟨i, by rw [List.getD_eq_getElem?_getD, List.getElem?_eq_getElem h, Option.getD_some]⟩)
  obtain ⟨y1, y2⟩ : 2 ≤ xs.getD i 0 ∧ xs.getD i 0 < 64 := hy
  unfold ent
  rw [hg _ (by omega), hg _ (by omega), h1, h2]
  generalize xs.getD i 0 = y at *
  obtain ⟨n, rfl⟩ := Int.eq_ofNat_of_zero_le (show 0 ≤ y from by omega)
  have : (UInt8.ofNat ((n : Int).toNat)).toNat = n := by
    rw [Int.toNat_natCast, UInt8.toNat_ofNat']
    omega
  rw [this]
  simp
theorem ents_body (xs : List Int) (hm : ∀ y ∈ xs, mayP y) : ents (bodyOf xs) xs.length = xs := by
  refine List.ext_getElem (by simp [ents]) fun i h1 h2 => ?_
  have := ent_body xs hm i h2
  simp only [ents, List.getElem_map, List.getElem_range]
  rw [this, List.getD_eq_getElem?_getD, List.getElem?_eq_getElem h2, Option.getD_some]
theorem body_len (xs : List Int) (h : xs.length ≤ 120) : (bodyOf xs).length = 240 := by
  rw [bodyOf, List.length_append, encL_len, zs, List.length_replicate]
  omega
theorem isDir_body (xs : List Int) (hm : ∀ y ∈ xs, mayP y) (d : Nat) (hd : d ≤ 5) (hn : xs.length = 2 ^ d) : IsDir 1 d (bodyOf xs) xs.length := by
  have h32 : xs.length ≤ 32 := by
    rw [hn]
    exact (pow_small d hd).2.2
  refine ⟨rfl, by omega, by omega, body_len xs (by omega), by rw [hn, Int.toNat_natCast], fun i hi => ?_, ?_⟩
  · rw [ent_body xs hm i hi]
    exact hm _ (List.mem_iff_getElem?.2 ⟨i, by rw [List.getD_eq_getElem?_getD, List.getElem?_eq_getElem hi, Option.getD_some]⟩)
  · intro c hc
    rw [bodyOf, List.drop_append_of_le_length (by rw [encL_len]; omega), List.drop_of_length_le (by rw [encL_len]; omega), List.nil_append] at hc
    exact (List.mem_replicate.1 hc).2

set_option maxRecDepth 100000 in
set_option maxHeartbeats 2000000 in
theorem new_no (n : Int) (w : World) (hn : ¬ mayP n) :
    Calls Tryz.prog 83 #[.int .i64 n] w fun e w' => e = .returned (.tuple #[.agg #[.int .i64 0, .int .i64 0, .int .i64 0, .string ⟨#[]⟩], .bool false]) ∧ Below w.heap.size w w' := by
  have hma := fun w => may_any n w
  rw [show mayB n = false from decide_eq_false hn] at hma
  go_enter Tryz.func83, Tryz.ntmps83
  go_wp2_with fail
  with_reducible refine (hma _).mono ?_
  rintro e w1 ⟨rfl, hw⟩
  subst hw
  go_wp2
  have hres := heap_alloc_new w (.cells #[.int .i64 0, .int .i64 0, .int .i64 0, .string ⟨#[]⟩] 113)
  have hbel := below_al (Below.refl _ w) (.cells #[.int .i64 0, .int .i64 0, .int .i64 0, .string ⟨#[]⟩] 113)
  have k0 := blk_cell hres
  generalize w.alloc (.cells #[.int .i64 0, .int .i64 0, .int .i64 0, .string ⟨#[]⟩] 113) = W at *
  refine bodyPost_ret (v := .tuple #[.agg #[.int .i64 0, .int .i64 0, .int .i64 0, .string ⟨#[]⟩], .bool false]) ?_ rfl ⟨rfl, hbel⟩
  simp [results, Tryz.results83, go_sem, k0]

set_option maxRecDepth 100000 in
set_option maxHeartbeats 2000000 in
theorem new_yes (n : Int) (w : World) (hn : mayP n) :
    Calls Tryz.prog 83 #[.int .i64 n] w fun e w' => e = .returned (.tuple #[.agg #[.int .i64 1, .int .i64 0, .int .i64 0, .string (str (bodyOf [n]))], .bool true]) ∧ Below w.heap.size w w' := by
  have hma := fun w => may_any n w
  rw [show mayB n = true from decide_eq_true hn] at hma
  have hem := fun w => empty_any 1 0 w
  have hpa := fun W g cap (hz : Ints W (some ⟨g, 0, none⟩) 1 [n]) => page_any 1 0 0 0 0 (str (zs 240)) (some ⟨g, 0, none⟩) 1 cap [n] W hz (fun y hy => by simp at hy; subst hy; exact hn) (by omega) (by omega)
  obtain ⟨Y, hY⟩ : ∃ Y, Y = str (bodyOf [n]) := ⟨_, rfl⟩
  obtain ⟨Z, hZ⟩ : ∃ Z, Z = str (zs 240) := ⟨_, rfl⟩
  simp only [← hZ, ← hY] at hem hpa ⊢
  clear hZ hY
  have Hpa := Lib.hid hpa
  clear hpa
  go_enter Tryz.func83, Tryz.ntmps83
  go_wp2_with fail
  with_reducible refine (hma _).mono ?_
  rintro e w1 ⟨rfl, hw⟩
  subst hw
  clear hma
  go_wp2_with fail
  with_reducible refine (hem _).mono ?_
  rintro e w2 ⟨rfl, hb2⟩
  clear hem
  have hint : Ints w2 (some ⟨w.heap.size + 1, 0, none⟩) 1 [n] := by
    refine ⟨rfl, by omega, fun _ => ⟨w.heap.size + 1, 0, rfl, ?_, fun j hj => ?_⟩⟩
    · have := hb2.size
      simp at this
      omega
    · obtain rfl : j = 0 := by omega
      exact blk_cell (blk2_below hb2).2 0
  have hres2 := (blk2_below hb2).1
  have hbel2 : Below w.heap.size w w2 := below_box (below_box hb2)
  clear hb2
  go_wp2_with fail
  with_reducible refine (Hpa.out _ _ _ hint).mono ?_
  rintro e w3 ⟨rfl, hb3⟩
  have hres3 := blk_keep hres2 hb3
  have hbel3 := below_base hbel2 hbel2.size hb3
  have hc3 := blk_cell hres3
  have hf3 := blk_free hres3
  have hz3 := lt_of_block hres3
  clear hb3 hres2 hbel2 hint
  go_wp2
  have hW : (set4 w3 (w.heap.size) (.int .i64 1) (.int .i64 0) (.int .i64 0) (.string Y)).heap[w.heap.size]? = _ := set4_same hres3 (.int .i64 1) (.int .i64 0) (.int .i64 0) (.string Y)
  have hB := below_set4 hbel3 (Nat.le_refl _) (.int .i64 1) (.int .i64 0) (.int .i64 0) (.string Y)
  change bodyPost _ _ _ _ _ (set4 w3 (w.heap.size) (.int .i64 1) (.int .i64 0) (.int .i64 0) (.string Y))
  generalize set4 w3 (w.heap.size) (.int .i64 1) (.int .i64 0) (.int .i64 0) (.string Y) = WF at *
  have j0 := blk_cell hW 0
  have j1 := blk_cell hW 1
  have j2 := blk_cell hW 2
  have j3 := blk_cell hW 3
  clear hW hc3 hf3
  refine bodyPost_ret (v := .tuple #[.agg #[.int .i64 1, .int .i64 0, .int .i64 0, .string Y], .bool true]) ?_ rfl (⟨rfl, hB⟩)
  simp [results, Tryz.results83, go_sem, j0, j1, j2, j3]
end Go.Proofs.YtijhamllnnilbaaGreatDoor.Dr
namespace Go.Proofs.YtijhamllnnilbaaGreatDoor.Gr
open Go.RowKit Go.Proofs.YtijhamllnnilbaaGreatDoor.Mem Go.Proofs.YtijhamllnnilbaaGreatDoor.Pg Go.Proofs.YtijhamllnnilbaaGreatDoor.Kp
set_option linter.unusedSimpArgs false
set_option linter.unusedVariables false

theorem Grp.ne {w : World} {gb mb sb : Nat} {M : Int → Option (List UInt8)} {tk : Int} (h : Grp w gb mb sb M tk) : gb ≠ mb := fun e => by
  have h1 := h.grp
  obtain ⟨D, ks, ⟨es, clock, hb, _⟩, _⟩ := h.map.ex
  rw [e, hb] at h1
  cases h1

set_option maxRecDepth 100000 in
set_option maxHeartbeats 2000000 in
theorem gput_ok (w : World) (gb mb sb : Nat) (M : Int → Option (List UInt8)) (tk i : Int) (p : Pag) (ht : Tab w) (hg : Grp w gb mb sb M tk) (hp : p.ok) (h0 : 0 ≤ i) (h1 : i < 64) :
    Calls Tryz.prog 75 #[.pointer (some ⟨gb, 0, none⟩), .int .i64 i, p.v] w fun e w' => e = .returned (.int .i64 0) ∧ Grp w' gb mb sb (upd M i p.bytes) tk ∧ Keep (fun j => j = mb) w w' := by
  have hput := fun W (k : Tab W) => put_yes p W k hp
  have hlen := Pag.bytes_len hp
  have d0 : decide (i < 0) = false := by simp; omega
  have d1 : decide (64 ≤ i) = false := by simp; omega
  obtain ⟨b, hb⟩ : ∃ b, b = p.bytes := ⟨_, rfl⟩
  rw [← hb] at hput hlen ⊢
  obtain ⟨k, d, x, l⟩ := p
  simp only [Pag.v] at hput ⊢
  obtain ⟨T, hT⟩ : ∃ T, T = str l := ⟨_, rfl⟩
  obtain ⟨S, hS⟩ : ∃ S, S = str b := ⟨_, rfl⟩
  rw [← hT, ← hS] at hput
  rw [← hT]
  have HT := Lib.hid (ht.alloc (.cells #[.int .i64 k, .int .i64 d, .int .i64 x, .string T] 113))
  have hb1 := below_al (Below.refl _ w) (.cells #[.int .i64 k, .int .i64 d, .int .i64 x, .string T] 113)
  have k5 := heap_alloc_new w (.cells #[.int .i64 k, .int .i64 d, .int .i64 x, .string T] 113)
  have c5 := blk_cell k5
  have Hg1 := Lib.hid (hg.below hb1)
  have HB := Lib.hid hb1
  have Hi := Lib.hid (And.intro h0 h1)
  have HS := Lib.hid hS
  have Hl := Lib.hid hlen
  have Hne := Lib.hid hg.ne
  clear ht hg hp h0 h1 hb hT hS hb1 k5 hlen
  go_enter Tryz.func75, Tryz.ntmps75
  go_wp2_with fail
  with_reducible refine (hput _ HT.out).mono ?_
  rintro e w2 ⟨rfl, hb2⟩
  have hg2 := Hg1.out.below hb2
  have cg := blk_cell hg2.grp
  have zg := hg2.lt1
  obtain ⟨w3, hrun, hmap, hgr⟩ := hg2.map.put i Hi.out.1 Hi.out.2 b (by rw [Hl.out]; omega)
  rw [← HS.out] at hrun
  have hg3 : Grp w3 gb mb sb (upd M i b) tk := ⟨(hgr.block _ zg (fun e => Hne.out (Option.some.inj e))).trans hg2.grp, hmap⟩
  have hk3 : Keep (fun j => j = mb) w w3 := (Keep.of_below (below_tr HB.out hb2)).trans (Keep.grown hgr (fun j e => (Option.some.inj e).symm))
  have Hg3 := Lib.hid hg3
  have Hk3 := Lib.hid hk3
  clear hb2 hg2 hmap hgr hg3 hk3 c5
  go_wp2_with fail
  go_ret
  exact ⟨rfl, Hg3.out, Hk3.out⟩

set_option maxRecDepth 100000 in
set_option maxHeartbeats 2000000 in
theorem gput_no (w : World) (gb : Nat) (i : Int) (p : Pag) (ht : Tab w) (h : ¬ (p.ok ∧ 0 ≤ i ∧ i < 64)) :
    Calls Tryz.prog 75 #[.pointer (some ⟨gb, 0, none⟩), .int .i64 i, p.v] w fun e w' => e = .returned (.int .i64 1) ∧ Below w.heap.size w w' := by
  have hy := fun W (k : Tab W) => put_yes p W k
  have hn := fun W (k : Tab W) => put_no p W k
  have h' := h
  obtain ⟨okp, hokp⟩ : ∃ okp, okp = p.ok := ⟨_, rfl⟩
  rw [← hokp] at h hy hn
  obtain ⟨k, d, x, l⟩ := p
  simp only [Pag.v] at hy hn ⊢
  obtain ⟨T, hT⟩ : ∃ T, T = str l := ⟨_, rfl⟩
  obtain ⟨S, hS⟩ : ∃ S, S = str (Pag.bytes ⟨k, d, x, l⟩) := ⟨_, rfl⟩
  rw [← hT, ← hS] at hy
  rw [← hT] at hn ⊢
  have HT := Lib.hid (ht.alloc (.cells #[.int .i64 k, .int .i64 d, .int .i64 x, .string T] 113))
  have hb1 := below_al (Below.refl _ w) (.cells #[.int .i64 k, .int .i64 d, .int .i64 x, .string T] 113)
  have c5 := blk_cell (heap_alloc_new w (.cells #[.int .i64 k, .int .i64 d, .int .i64 x, .string T] 113))
  have HB := Lib.hid hb1
  clear ht hT hS hb1 h' hokp
  by_cases hk : okp
  · have hy' := fun W t => hy W t hk
    clear hn hy
    by_cases h0 : i < 0
    · have d0 : decide (i < 0) = true := by simpa using h0
      clear h hk h0
      go_enter Tryz.func75, Tryz.ntmps75
      go_wp2_with fail
      with_reducible refine (hy' _ HT.out).mono ?_
      rintro e w2 ⟨rfl, hb2⟩
      have hbb := below_tr HB.out hb2
      go_wp2_with fail
      go_ret
      exact ⟨rfl, hbb⟩
    · have d0 : decide (i < 0) = false := by simpa using h0
      have h64 : 64 ≤ i := by
        rcases Int.lt_or_le i 64 with h64 | h64
        · exact absurd ⟨hk, by omega, h64⟩ h
        · exact h64
      have d1 : decide (64 ≤ i) = true := by simpa using h64
      clear h hk h0 h64
      go_enter Tryz.func75, Tryz.ntmps75
      go_wp2_with fail
      with_reducible refine (hy' _ HT.out).mono ?_
      rintro e w2 ⟨rfl, hb2⟩
      have hbb := below_tr HB.out hb2
      go_wp2_with fail
      go_ret
      exact ⟨rfl, hbb⟩
  · have hn' := fun W t => hn W t hk
    clear hn hy h hk
    go_enter Tryz.func75, Tryz.ntmps75
    go_wp2_with fail
    with_reducible refine (hn' _ HT.out).mono ?_
    rintro e w2 ⟨rfl, hb2⟩
    have hbb := below_tr HB.out hb2
    go_wp2_with fail
    go_ret
    exact ⟨rfl, hbb⟩

set_option maxRecDepth 100000 in
theorem gbytes_any (w : World) (gb mb sb : Nat) (M : Int → Option (List UInt8)) (tk i : Int) (hi : (Lit.int .i64 i).wf = true) (hg : Grp w gb mb sb M tk) :
    Calls Tryz.prog 71 #[.pointer (some ⟨gb, 0, none⟩), .int .i64 i] w fun e w' => e = .returned (.tuple #[.string (str ((M i).getD [])), .bool (M i).isSome]) ∧ w' = w := by
  have cg := blk_cell hg.grp
  have zg := hg.lt1
  have hrun := hg.map.look i hi
  obtain ⟨S, hS⟩ : ∃ S, S = str ((M i).getD []) := ⟨_, rfl⟩
  rw [← hS] at hrun ⊢
  generalize (M i).isSome = y at *
  clear hg hS
  go_enter Tryz.func71, Tryz.ntmps71
  go_wp2_with fail
  go_ret2
  exact ⟨rfl, rfl⟩
end Go.Proofs.YtijhamllnnilbaaGreatDoor.Gr
