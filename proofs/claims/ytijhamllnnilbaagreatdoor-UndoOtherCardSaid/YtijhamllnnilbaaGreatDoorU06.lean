/- Lemmas of the claim, in their order:
- The contract of package cell's Put. (Printed by tools/gen_celput.py.)
-/
import Derived.Test.YtijhamllnnilbaaGreatDoorU04
import Derived.Test.YtijhamllnnilbaaGreatDoorU05
import Derived.Lib.OthersKept
set_option linter.unusedVariables false
set_option linter.unusedSimpArgs false
namespace Go.Proofs.YtijhamllnnilbaaGreatDoor.Ha
open Go.RowKit Go.Proofs.YtijhamllnnilbaaGreatDoor.Mem Go.Proofs.YtijhamllnnilbaaGreatDoor.Pg Go.Proofs.YtijhamllnnilbaaGreatDoor.Kp Go.Proofs.YtijhamllnnilbaaGreatDoor.Sp
set_option linter.unusedSimpArgs false
set_option linter.unusedVariables false
theorem isB_drew {T e : TypeId} {B b : Nat} {bs : List Value} {w : World} (h : Lib.IsBuilderF T e B b bs w) : Lib.IsBuilderF T e B b bs w.drew := h.imp Lib.BuilderAtF.drew Lib.BuilderAtF.drew
theorem bAt_below {T e : TypeId} {B b : Nat} {p : Value} {bs : List Value} {W W' : World} (h : Lib.BuilderAtF T e B b p bs W) (hb : Below W.heap.size W W') : Lib.BuilderAtF T e B b p bs W' := by
  have hlt := h.lt
  obtain ⟨hB, v, hv, hown, hne⟩ := h
  exact ⟨hB, v, (hb.block b hlt).trans hv, hown.kept (row := none) ⟨hb.os, hb.tape, hb.output, hb.size, fun k hk _ => hb.block k hk⟩ (Classical.em _), hne⟩
theorem isB_below {T e : TypeId} {B b : Nat} {bs : List Value} {W W' : World} (h : Lib.IsBuilderF T e B b bs W) (hb : Below W.heap.size W W') : Lib.IsBuilderF T e B b bs W' := h.imp (bAt_below · hb) (bAt_below · hb)
/-- A row of cells that is read. -/
def Cels (w : World) (A : Option Addr) (l : List Cel) : Prop :=
  0 < l.length → ∃ b off, A = some ⟨b, off, none⟩ ∧ b < w.heap.size ∧ ∀ i c, l[i]? = some c → ∀ j u, c.cells[j]? = some u → w.cell? ⟨b, off + i * 4 + j, none⟩ = some u
theorem Cels.of_own {w : World} {base n m cap : Nat} {A : Option Addr} {l : List Cel} (h : w.ownsRow base 33 4 (.slice A m cap) n (flatC l)) : Cels w A l := fun h0 => by
  have hl := h.1
  rw [flatC_len] at hl
  rcases h.2 with ⟨h1, h2⟩ | ⟨g, cap', cur, h1, hb, hh, _⟩
  · omega
  · injection h1 with h1 _ _
    subst h1
    refine ⟨g, 0, rfl, lt_of_block hh, fun i c hi j u hj => ?_⟩
    have hil := (List.getElem?_eq_some_iff.1 hi).1
    have hjl : j < 4 := (List.getElem?_eq_some_iff.1 hj).1
    have e : l[i] = c := (List.getElem?_eq_some_iff.1 hi).2
    rw [Nat.zero_add]
    exact own_at h (i * 4 + j) u (by rw [flatC_at hil j hjl, e]; exact hj)
/-- A count and cells, as bytes. -/
def headF (m : Nat) (l : List Cel) : List UInt8 := UInt8.ofNat m :: encs l
theorem headF_step (m : Nat) (l : List Cel) (j : Nat) (hj : j < l.length) : Lib.byteCells (headF m (l.take (j + 1))) = Lib.byteCells (headF m (l.take j)) ++ Lib.strCells (str l[j].enc) := by
  rw [List.take_succ_eq_append_getElem hj, headF, headF, encs_append]
  simp [Lib.byteCells, Lib.strCells, encs]
theorem headF_len (m : Nat) (l : List Cel) : (Lib.byteCells (headF m l)).length = 1 + szs l := by
  simp [Lib.byteCells, headF, encs_len]; omega
theorem szs_take_le (l : List Cel) (j : Nat) : szs (l.take j) ≤ szs l := by
  have := szs_append (l.take j) (l.drop j)
  rw [List.take_append_drop] at this
  omega
theorem sz_le (c : Cel) (h : c.ok) : c.sz ≤ 60 := by
  have h1 := h.key.2
  have h2 := h.rest
  unfold Cel.sz
  split <;> omega
theorem szs_le (l : List Cel) (h : ∀ c, c ∈ l → c.ok) : szs l ≤ l.length * 60 := by
  induction l with
  | nil => simp [szs]
  | cons a l ih =>
    have h1 := sz_le a (h a (List.mem_cons_self ..))
    have h2 := ih (fun c hc => h c (List.mem_cons_of_mem _ hc))
    simp [szs] at h2 ⊢
    omega
theorem body_str (l : List Cel) (h : szs l ≤ 239) : (⟨(headF l.length l).toArray⟩ : ByteArray) ++ str (zs (240 - (1 + szs l))) = str (bodyF l) := by
  show str (headF l.length l) ++ _ = _
  rw [str_app, show 240 - (1 + szs l) = 239 - szs l by omega]
  rfl

theorem geq_str (P K : ByteArray) (W : World) : (binOp BinOp.geq 9 (.string P) (.string K)).run Tryz.prog W = .ok (.bool (!Op.bytesLess P.toList K.toList)) W := by kernel_rfl
theorem geq_no {a b : List UInt8} (h : a < b) (W : World) : (binOp BinOp.geq 9 (.string (str a)) (.string (str b))).run Tryz.prog W = .ok (.bool false) W := by
  rw [geq_str, bytesLess_eq, Lib.toList_data, Lib.toList_data]
  show Result.ok (Value.bool (!decide (a < b))) W = _
  rw [decide_eq_true h]; rfl

/-- What Put answers. -/
def putRes (l : List Cel) : Ending := if szs l ≤ 239 then .returned (.tuple #[.string (str (bodyF l)), .bool true]) else .returned (.tuple #[.string ⟨#[]⟩, .bool false])
set_option maxRecDepth 100000 in
set_option maxHeartbeats 8000000 in
theorem putAll_any (A : Option Addr) (n cap : Nat) (l : List Cel) (w : World) (hn : n = l.length) (h200 : l.length ≤ 200) (hA : Cels w A l) (hok : ∀ c, c ∈ l → c.ok) (hs : Sorted l) :
    Calls Tryz.prog 195 #[.slice A n cap] w fun e w' => e = putRes l ∧ Below w.heap.size w w' := by
  have hle := szs_le l hok
  have hlk : ∀ j, j < l.length → Cels w A l := fun j hj => hA
  have h0 : Lib.IsBuilderF 239 5 w.heap.size w.heap.size (Lib.byteCells []) (w.alloc (.cells #[.pointer none, .slice none 0 0] 239)) := .inl ⟨Nat.le_refl _, .slice none 0 0, heap_alloc_new _ _, World.ownsRowF_of (World.ownsRow_nil _ _ _ _), by simp [Value.ownBlock]⟩
  have hb0 := below_al (Below.refl _ w) (.cells #[.pointer none, .slice none 0 0] 239)
  have d0 : decide (240 < (n : Int)) = false := by simp; omega
  have d0' : decide (240 < n) = false := by simp; omega
  have hc8 : ((n : Int) % 256) = (n : Int) := by omega
  have hn2 : n ≤ 200 := by omega
  have hwb := Tryz.Builder_WriteByte_k w.heap.size w.heap.size (Lib.byteCells []) (n : Int) _ h0 (by simp [Lib.byteCells]) hb0.size
  have e0 : Lib.byteCells [] ++ [Value.int .u8 (n : Int)] = Lib.byteCells (headF l.length (l.take 0)) := by
    simp only [Lib.byteCells, headF, List.take_zero, encs, List.flatMap_nil, List.map_nil, List.nil_append, List.map_cons]
    have : (UInt8.ofNat l.length).toNat = l.length := by rw [UInt8.toNat_ofNat']; exact Nat.mod_eq_of_lt (by omega)
    rw [this, hn]
  rw [e0] at hwb
  have HB0 := Lib.hid hb0
  have Hle := Lib.hid hle
  have HA := Lib.hid hA
  have Hok := Lib.hid hok
  have Hs := Lib.hid hs
  have Hn := Lib.hid hn
  clear h0 hb0 e0 hA hok hs hle hlk hn h200
  go_enter Tryz.func195, Tryz.ntmps195
  go_wp2_with fail
  with_reducible refine hwb.mono ?_
  rintro e w1 ⟨rfl, hbu1, hbw1, _⟩
  have HB1 : Hid (Lib.IsBuilderF 239 5 w.heap.size w.heap.size (Lib.byteCells (headF l.length (l.take 0))) w1) := Lib.hid (.inr hbu1)
  have HW1 : Hid (Below w.heap.size w w1) := Lib.hid (HB0.out.trans hbw1)
  clear hbu1 hbw1 hwb
  go_wp2_with fail
  go_loopw [16] (fun u wr => ∃ j : Nat, u = .int .i64 j ∧ j ≤ n ∧ Hid (Lib.IsBuilderF 239 5 w.heap.size w.heap.size (Lib.byteCells (headF l.length (l.take j))) wr) ∧ Hid (Below w.heap.size w wr)) (fun u _ => n - (intOf u).toNat)
  case atStart => exact ⟨0, rfl, Nat.zero_le _, HB1, HW1⟩
  case round =>
    clear HB1 HW1
    obtain ⟨j, rfl, hj, hB, hW⟩ := hrel
    by_cases hlt : j < n
    · have hjl : j < l.length := by have := Hn.out; omega
      obtain ⟨b0, off, rfl, hbl, hcell⟩ := HA.out (by omega)
      have d1 : decide ((j : Int) < (n : Int)) = true := by simpa using hlt
      have d2 : decide (j < n) = true := by simpa using hlt
      have hlt' : (j : Int) < (n : Int) := by omega
      have hj1 : j + 1 ≤ n := hlt
      have i1 : IntKind.i64.wrap ((j : Int) + 1) = (j : Int) + 1 := IntWalk.i64_in _ (by omega)
      have hbw : b0 < wr.heap.size := Nat.lt_of_lt_of_le hbl hW.out.size
      have hnx : Hid (Lib.byteCells (headF l.length (l.take (j + 1))) = Lib.byteCells (headF l.length (l.take j)) ++ Lib.strCells (str l[j].enc)) := Lib.hid (headF_step _ l j hjl)
      have hokc := Hok.out _ (List.getElem_mem hjl)
      have hrt := fun W => right_any l[j] W
      rw [decide_eq_true hokc] at hrt
      have hput := fun W => put_any l[j] hokc W
      have hcl : ∀ (W : World), Below w.heap.size w W → ∀ r u, (l[j]).cells[r]? = some u → W.cell? ⟨b0, off + j * 4 + r, none⟩ = some u := fun W hW r u hr => (hW.cell hbl).trans (hcell j _ (List.getElem?_eq_getElem hjl) r u hr)
      have hprev : ∀ i, j = i + 1 → ∃ P : ByteArray, (∀ W : World, Below w.heap.size w W → W.cell? ⟨b0, off + i * 4, none⟩ = some (.string P)) ∧ ∀ W : World, (binOp BinOp.geq 9 (.string P) (.string (str l[j].key))).run Tryz.prog W = .ok (.bool false) W := fun i hi => by
        have hil : i < l.length := by omega
        exact ⟨str l[i].key, fun W hW => (hW.cell hbl).trans (hcell i _ (List.getElem?_eq_getElem hil) 0 _ rfl), fun W => geq_no (List.pairwise_iff_getElem.1 Hs.out i j hil hjl (by omega)) W⟩
      have hlen : (Lib.byteCells (headF l.length (l.take j))).length + (str l[j].enc).size ≤ 140737488355328 := by
        rw [headF_len, str_size, Cel.enc_len]
        have h1 := szs_take_le l j
        have h2 := Hle.out
        have h3 := sz_le _ hokc
        have h4 := Hn.out
        omega
      obtain ⟨x, hx⟩ : ∃ x, x = l[j] := ⟨_, rfl⟩
      rw [← hx] at hnx hrt hput hcl hprev hlen
      obtain ⟨k, v, b, z⟩ := x
      simp only [Cel.v] at hrt hput
      simp only at hprev
      have c0 := hcl wr hW.out 0 _ rfl
      have c1 := hcl wr hW.out 1 _ rfl
      have c2 := hcl wr hW.out 2 _ rfl
      have c3 := hcl wr hW.out 3 _ rfl
      simp only [Nat.add_zero] at c0
      obtain ⟨E, hE⟩ : ∃ E, E = str (Cel.enc ⟨k, v, b, z⟩) := ⟨_, rfl⟩
      rw [← hE] at hnx hput hlen
      obtain ⟨K, hK⟩ : ∃ K, K = str k := ⟨_, rfl⟩
      obtain ⟨V, hV⟩ : ∃ V, V = str v := ⟨_, rfl⟩
      rw [← hK] at hrt hput hprev c0
      rw [← hV] at hrt hput c1
      obtain ⟨bs, hbs⟩ : ∃ bs, bs = Lib.byteCells (headF l.length (l.take j)) := ⟨_, rfl⟩
      rw [← hbs] at hB hnx hlen
      have Hnx := Lib.hid hnx.out
      have hbel := hW.out
      have hbu := hB.out
      clear hcl hE hK hV hbs hx hnx hcell hokc hB hW hlt hjl
      rcases j with _ | i
      · simp only [Nat.zero_mul, Nat.add_zero] at c0 c1 c2 c3
        clear hprev
        go_wp2_with fail
        refine wp_region_held_drew (S := (fun W' => Below w.heap.size w W' ∧ W'.heap[wr.heap.size]? = some (.cells #[.string K, .string V, .int .i64 (b : Int), .int .i64 (z : Int)] 33 (0, 0)) ∧ Lib.IsBuilderF 239 5 w.heap.size w.heap.size bs W')) (by kernel_rfl) (⟨below_dr (below_al hbel (celO K V b z)), heap_alloc_new wr (celO K V b z), isB_drew (hbu.alloc _)⟩) (fun hHeld => ?_)
        refine Ra.W 0 ?_ ?_ hHeld ?_
        rotate_left
        · intro wq hSw
          have hSc := blk_cell hSw.2.1; have hSl := lt_of_block hSw.2.1
          go_simp
          try with_reducible rfl
        try simp only [Act.put, List.getElem_toArray, List.getElem_cons_succ, List.getElem_cons_zero, List.setIfInBounds_toArray, List.set_cons_zero, List.set_cons_succ]
        refine wpAnyH_ready (rs := [1]) (by kernel_rfl) (by simp) ?_
        refine AllReadyH.cons rfl (fun K hK => ?_) AllReadyH.nil
        rw [if_pos (by kernel_rfl)]
        go_simp
        (with_reducible refine (hrt _).mono ?_)
        rintro e w2 ⟨rfl, hb2⟩
        go_simp
        refine hK.out _ _ (⟨below_base hHeld.1 hHeld.1.size hb2, blk_keep hHeld.2.1 hb2, isB_below hHeld.2.2 hb2⟩) (fun hHeld2 => ?_)
        clear hK K
        try clear hHeld
        have hHeld := hHeld2
        try clear hHeld2
        refine Ra.W 2 ?_ ?_ hHeld ?_
        rotate_left
        · intro wq hSw
          go_simp
          try with_reducible rfl
        try simp only [Act.put, List.getElem_toArray, List.getElem_cons_succ, List.getElem_cons_zero, List.setIfInBounds_toArray, List.set_cons_zero, List.set_cons_succ]
        refine Ra.W 3 ?_ ?_ hHeld ?_
        rotate_left
        · intro wq hSw
          go_simp
          try with_reducible rfl
        try simp only [Act.put, List.getElem_toArray, List.getElem_cons_succ, List.getElem_cons_zero, List.setIfInBounds_toArray, List.set_cons_zero, List.set_cons_succ]
        refine Ra.W 4 ?_ ?_ hHeld ?_
        rotate_left
        · intro wq hSw
          go_simp
          try with_reducible rfl
        try simp only [Act.put, List.getElem_toArray, List.getElem_cons_succ, List.getElem_cons_zero, List.setIfInBounds_toArray, List.set_cons_zero, List.set_cons_succ]
        refine Ra.W 5 ?_ ?_ hHeld ?_
        rotate_left
        · intro wq hSw
          go_simp
          try rw [if_neg (by omega)]
          try rw [if_pos (by omega)]
          try with_reducible rfl
        try simp only [Act.put, List.getElem_toArray, List.getElem_cons_succ, List.getElem_cons_zero, List.setIfInBounds_toArray, List.set_cons_zero, List.set_cons_succ]
        refine Ra.W 6 ?_ ?_ hHeld ?_
        rotate_left
        · intro wq hSw
          go_simp
          try with_reducible rfl
        try simp only [Act.put, List.getElem_toArray, List.getElem_cons_succ, List.getElem_cons_zero, List.setIfInBounds_toArray, List.set_cons_zero, List.set_cons_succ]
        refine Ra.U 7 hHeld ?_
        try simp only [Act.put, List.getElem_toArray, List.getElem_cons_succ, List.getElem_cons_zero, List.setIfInBounds_toArray, List.set_cons_zero, List.set_cons_succ]
        refine Ra.U 8 hHeld ?_
        try simp only [Act.put, List.getElem_toArray, List.getElem_cons_succ, List.getElem_cons_zero, List.setIfInBounds_toArray, List.set_cons_zero, List.set_cons_succ]
        refine Ra.U 9 hHeld ?_
        try simp only [Act.put, List.getElem_toArray, List.getElem_cons_succ, List.getElem_cons_zero, List.setIfInBounds_toArray, List.set_cons_zero, List.set_cons_succ]
        refine Ra.U 10 hHeld ?_
        try simp only [Act.put, List.getElem_toArray, List.getElem_cons_succ, List.getElem_cons_zero, List.setIfInBounds_toArray, List.set_cons_zero, List.set_cons_succ]
        refine Ra.U 11 hHeld ?_
        try simp only [Act.put, List.getElem_toArray, List.getElem_cons_succ, List.getElem_cons_zero, List.setIfInBounds_toArray, List.set_cons_zero, List.set_cons_succ]
        refine Ra.U 12 hHeld ?_
        try simp only [Act.put, List.getElem_toArray, List.getElem_cons_succ, List.getElem_cons_zero, List.setIfInBounds_toArray, List.set_cons_zero, List.set_cons_succ]
        refine Ra.U 13 hHeld ?_
        try simp only [Act.put, List.getElem_toArray, List.getElem_cons_succ, List.getElem_cons_zero, List.setIfInBounds_toArray, List.set_cons_zero, List.set_cons_succ]
        refine Ra.U 14 hHeld ?_
        try simp only [Act.put, List.getElem_toArray, List.getElem_cons_succ, List.getElem_cons_zero, List.setIfInBounds_toArray, List.set_cons_zero, List.set_cons_succ]
        refine Ra.U 15 hHeld ?_
        try simp only [Act.put, List.getElem_toArray, List.getElem_cons_succ, List.getElem_cons_zero, List.setIfInBounds_toArray, List.set_cons_zero, List.set_cons_succ]
        refine Ra.W 16 ?_ ?_ hHeld ?_
        rotate_left
        · intro wq hSw
          go_simp
          try with_reducible rfl
        try simp only [Act.put, List.getElem_toArray, List.getElem_cons_succ, List.getElem_cons_zero, List.setIfInBounds_toArray, List.set_cons_zero, List.set_cons_succ]
        refine Ra.W 17 ?_ ?_ hHeld ?_
        rotate_left
        · intro wq hSw
          go_simp
          try with_reducible rfl
        try simp only [Act.put, List.getElem_toArray, List.getElem_cons_succ, List.getElem_cons_zero, List.setIfInBounds_toArray, List.set_cons_zero, List.set_cons_succ]
        refine wpAnyH_done (by kernel_rfl) ?_ _
        have Hh := Lib.hid hHeld
        clear hHeld hbel hbu
        have hSc := blk_cell Hh.out.2.1
        have hSl := lt_of_block Hh.out.2.1
        go_wp2_with fail
        with_reducible refine (hput _).mono ?_
        rintro e w3 ⟨rfl, hb3⟩
        have hbu3 := isB_below Hh.out.2.2 hb3
        have hbw3 := below_base Hh.out.1 Hh.out.1.size hb3
        have hws := Tryz.Builder_WriteString_k w.heap.size w.heap.size bs E w3 hbu3 hlen hbw3.size
        clear hSc hSl
        go_wp2_with fail
        with_reducible refine hws.mono ?_
        rintro e w4 ⟨rfl, hbu4, hbw4, _⟩
        have HB := Lib.hid hbu4
        have HW := Lib.hid (hbw3.trans hbw4)
        clear hbu4 hbw4 hws hbu3 hbw3 hb3
        go_wp2_with fail
        go_roundw
        case rel => exact ⟨0 + 1, by go_num, by omega, Lib.hid (.inr (by rw [Hnx.out]; exact HB.out)), HW⟩
        case measure => clear i1; simp [intOf]; omega
      · obtain ⟨P, cp, hge⟩ := hprev i rfl
        have w1' : IntKind.i64.wrap ((i : Int) + 1 - 1) = (i : Int) := by rw [IntWalk.i64_in _ (by omega)]; omega
        have w2' : IntKind.i64.wrap (i : Int) = (i : Int) := IntWalk.i64_in _ (by omega)
        have f2 : decide ((0 : Int) < ((i : Int) + 1)) = true := decide_eq_true (by omega)
        have f7 : (0 : Int) ≤ (i : Int) := by omega
        have f5 : (i : Int) < (n : Int) := by omega
        clear hprev
        go_wp2_with fail
        refine wp_region_held_drew (S := (fun W' => Below w.heap.size w W' ∧ W'.heap[wr.heap.size]? = some (.cells #[.string K, .string V, .int .i64 (b : Int), .int .i64 (z : Int)] 33 (0, 0)) ∧ Lib.IsBuilderF 239 5 w.heap.size w.heap.size bs W')) (by kernel_rfl) (⟨below_dr (below_al hbel (celO K V b z)), heap_alloc_new wr (celO K V b z), isB_drew (hbu.alloc _)⟩) (fun hHeld => ?_)
        refine Ra.W 0 ?_ ?_ hHeld ?_
        rotate_left
        · intro wq hSw
          have hSc := blk_cell hSw.2.1; have hSl := lt_of_block hSw.2.1; have hSp := cp _ hSw.1
          go_simp
          try with_reducible rfl
        try simp only [Act.put, List.getElem_toArray, List.getElem_cons_succ, List.getElem_cons_zero, List.setIfInBounds_toArray, List.set_cons_zero, List.set_cons_succ]
        refine wpAnyH_ready (rs := [1]) (by kernel_rfl) (by simp) ?_
        refine AllReadyH.cons rfl (fun K hK => ?_) AllReadyH.nil
        rw [if_pos (by kernel_rfl)]
        go_simp
        (with_reducible refine (hrt _).mono ?_)
        rintro e w2 ⟨rfl, hb2⟩
        go_simp
        refine hK.out _ _ (⟨below_base hHeld.1 hHeld.1.size hb2, blk_keep hHeld.2.1 hb2, isB_below hHeld.2.2 hb2⟩) (fun hHeld2 => ?_)
        clear hK K
        try clear hHeld
        have hHeld := hHeld2
        try clear hHeld2
        refine Ra.W 2 ?_ ?_ hHeld ?_
        rotate_left
        · intro wq hSw
          go_simp
          try with_reducible rfl
        try simp only [Act.put, List.getElem_toArray, List.getElem_cons_succ, List.getElem_cons_zero, List.setIfInBounds_toArray, List.set_cons_zero, List.set_cons_succ]
        refine Ra.W 3 ?_ ?_ hHeld ?_
        rotate_left
        · intro wq hSw
          go_simp
          try with_reducible rfl
        try simp only [Act.put, List.getElem_toArray, List.getElem_cons_succ, List.getElem_cons_zero, List.setIfInBounds_toArray, List.set_cons_zero, List.set_cons_succ]
        refine Ra.W 4 ?_ ?_ hHeld ?_
        rotate_left
        · intro wq hSw
          go_simp
          try with_reducible rfl
        try simp only [Act.put, List.getElem_toArray, List.getElem_cons_succ, List.getElem_cons_zero, List.setIfInBounds_toArray, List.set_cons_zero, List.set_cons_succ]
        refine Ra.W 5 ?_ ?_ hHeld ?_
        rotate_left
        · intro wq hSw
          go_simp
          try rw [if_neg (by omega)]
          try rw [if_pos (by omega)]
          try with_reducible rfl
        try simp only [Act.put, List.getElem_toArray, List.getElem_cons_succ, List.getElem_cons_zero, List.setIfInBounds_toArray, List.set_cons_zero, List.set_cons_succ]
        refine Ra.W 6 ?_ ?_ hHeld ?_
        rotate_left
        · intro wq hSw
          go_simp
          try with_reducible rfl
        try simp only [Act.put, List.getElem_toArray, List.getElem_cons_succ, List.getElem_cons_zero, List.setIfInBounds_toArray, List.set_cons_zero, List.set_cons_succ]
        refine Ra.W 7 ?_ ?_ hHeld ?_
        rotate_left
        · intro wq hSw
          go_simp
          try with_reducible rfl
        try simp only [Act.put, List.getElem_toArray, List.getElem_cons_succ, List.getElem_cons_zero, List.setIfInBounds_toArray, List.set_cons_zero, List.set_cons_succ]
        refine Ra.W 8 ?_ ?_ hHeld ?_
        rotate_left
        · intro wq hSw
          go_simp
          try with_reducible rfl
        try simp only [Act.put, List.getElem_toArray, List.getElem_cons_succ, List.getElem_cons_zero, List.setIfInBounds_toArray, List.set_cons_zero, List.set_cons_succ]
        refine Ra.W 9 ?_ ?_ hHeld ?_
        rotate_left
        · intro wq hSw
          go_simp
          try rw [if_neg (by omega)]
          try rw [if_pos (by omega)]
          try with_reducible rfl
        try simp only [Act.put, List.getElem_toArray, List.getElem_cons_succ, List.getElem_cons_zero, List.setIfInBounds_toArray, List.set_cons_zero, List.set_cons_succ]
        refine Ra.W 10 ?_ ?_ hHeld ?_
        rotate_left
        · intro wq hSw
          have hSc := blk_cell hSw.2.1; have hSl := lt_of_block hSw.2.1; have hSp := cp _ hSw.1
          go_simp
          try rw [if_neg (by omega)]
          try rw [if_pos (by omega)]
          try with_reducible rfl
        try simp only [Act.put, List.getElem_toArray, List.getElem_cons_succ, List.getElem_cons_zero, List.setIfInBounds_toArray, List.set_cons_zero, List.set_cons_succ]
        refine Ra.W 11 ?_ ?_ hHeld ?_
        rotate_left
        · intro wq hSw
          go_simp
          try with_reducible rfl
        try simp only [Act.put, List.getElem_toArray, List.getElem_cons_succ, List.getElem_cons_zero, List.setIfInBounds_toArray, List.set_cons_zero, List.set_cons_succ]
        refine Ra.W 12 ?_ ?_ hHeld ?_
        rotate_left
        · intro wq hSw
          have hSc := blk_cell hSw.2.1; have hSl := lt_of_block hSw.2.1; have hSp := cp _ hSw.1
          go_simp
          try with_reducible rfl
        try simp only [Act.put, List.getElem_toArray, List.getElem_cons_succ, List.getElem_cons_zero, List.setIfInBounds_toArray, List.set_cons_zero, List.set_cons_succ]
        refine Ra.W 13 ?_ ?_ hHeld ?_
        rotate_left
        · intro wq hSw
          go_simp
          try with_reducible rfl
        try simp only [Act.put, List.getElem_toArray, List.getElem_cons_succ, List.getElem_cons_zero, List.setIfInBounds_toArray, List.set_cons_zero, List.set_cons_succ]
        refine Ra.W 14 ?_ ?_ hHeld ?_
        rotate_left
        · intro wq hSw
          have hSc := blk_cell hSw.2.1; have hSl := lt_of_block hSw.2.1; have hSp := cp _ hSw.1
          go_simp
          try with_reducible rfl
        try simp only [Act.put, List.getElem_toArray, List.getElem_cons_succ, List.getElem_cons_zero, List.setIfInBounds_toArray, List.set_cons_zero, List.set_cons_succ]
        refine Ra.W 15 ?_ ?_ hHeld ?_
        rotate_left
        · intro wq hSw
          go_simp
          try rw [if_neg (by omega)]
          try rw [if_pos (by omega)]
          try with_reducible rfl
        try simp only [Act.put, List.getElem_toArray, List.getElem_cons_succ, List.getElem_cons_zero, List.setIfInBounds_toArray, List.set_cons_zero, List.set_cons_succ]
        refine Ra.W 16 ?_ ?_ hHeld ?_
        rotate_left
        · intro wq hSw
          go_simp
          try with_reducible rfl
        try simp only [Act.put, List.getElem_toArray, List.getElem_cons_succ, List.getElem_cons_zero, List.setIfInBounds_toArray, List.set_cons_zero, List.set_cons_succ]
        refine Ra.W 17 ?_ ?_ hHeld ?_
        rotate_left
        · intro wq hSw
          go_simp
          try with_reducible rfl
        try simp only [Act.put, List.getElem_toArray, List.getElem_cons_succ, List.getElem_cons_zero, List.setIfInBounds_toArray, List.set_cons_zero, List.set_cons_succ]
        refine wpAnyH_done (by kernel_rfl) ?_ _
        have Hh := Lib.hid hHeld
        clear hHeld hbel hbu
        have hSc := blk_cell Hh.out.2.1
        have hSl := lt_of_block Hh.out.2.1
        go_wp2_with fail
        with_reducible refine (hput _).mono ?_
        rintro e w3 ⟨rfl, hb3⟩
        have hbu3 := isB_below Hh.out.2.2 hb3
        have hbw3 := below_base Hh.out.1 Hh.out.1.size hb3
        have hws := Tryz.Builder_WriteString_k w.heap.size w.heap.size bs E w3 hbu3 hlen hbw3.size
        clear hSc hSl
        go_wp2_with fail
        with_reducible refine hws.mono ?_
        rintro e w4 ⟨rfl, hbu4, hbw4, _⟩
        have HB := Lib.hid hbu4
        have HW := Lib.hid (hbw3.trans hbw4)
        clear hbu4 hbw4 hws hbu3 hbw3 hb3
        go_wp2_with fail
        go_roundw
        case rel => exact ⟨i + 2, by go_num, by omega, Lib.hid (.inr (by rw [Hnx.out]; exact HB.out)), HW⟩
        case measure => clear i1; simp [intOf]; omega
    · obtain rfl : j = n := by omega
      have hF := fun W h => Tryz.Builder_Len_f w.heap.size w.heap.size (Lib.byteCells (headF l.length l)) W h
      rw [headF_len] at hF
      have hst := fun W h => Tryz.Builder_String_any_k w.heap.size w.heap.size (headF l.length l) W h
      have e0 : Lib.byteCells (headF l.length (l.take j)) = Lib.byteCells (headF l.length l) := by rw [Hn.out, List.take_length]
      rw [e0] at hB
      have hle' : szs l ≤ 12000 := by have := Hle.out; have := Hn.out; omega
      have HH := Lib.hid (body_str l)
      obtain ⟨m, hm0⟩ : ∃ m, m = szs l := ⟨_, rfl⟩
      rw [← hm0] at hF hle' HH
      have Hm := Lib.hid hm0
      clear hm0
      have hbu := hB.out
      have hbw := hW.out
      clear e0 Hle HA Hok Hs hB hW
      by_cases hm : m ≤ 239
      · have f1 : decide ((240 : Int) < ((1 + m : Nat) : Int)) = false := decide_eq_false (by omega)
        have f2 : wrap64 (240 - ((1 + m : Nat) : Int)) = ((239 - m : Nat) : Int) := by rw [IntWalk.wrap64_in _ (by omega)]; omega
        have f3 : IntKind.i64.wrap (240 - ((1 + m : Nat) : Int)) = ((239 - m : Nat) : Int) := by rw [IntWalk.i64_in _ (by omega)]; omega
        have hrep := fun W => Tryz.strings_Repeat ⟨#[0]⟩ (239 - m) W (by omega) (by show 1 * (239 - m) ≤ _; omega)
        rw [show ((239 - m : Nat) : Int) = 240 - (1 + (m : Int)) from by omega] at hrep
        have hbs := HH.out hm
        rw [show 240 - (1 + m) = 239 - m by omega] at hbs
        obtain ⟨P, hP⟩ : ∃ P : ByteArray, P = ⟨(headF l.length l).toArray⟩ := ⟨_, rfl⟩
        obtain ⟨Q, hQ⟩ : ∃ Q : ByteArray, Q = ⟨(Lib.repeatL [0] (239 - m)).toArray⟩ := ⟨_, rfl⟩
        have hPs : P.size = 1 + m := by rw [hP, str_size, Hm.out, ← encs_len]; simp [headF]; omega
        have hQs : Q.size = 239 - m := by rw [hQ, str_size, repeat_one, List.length_replicate]
        rw [← hP] at hst hbs
        have hrep' : ∀ W, Calls Tryz.prog 186 #[.string ⟨#[0]⟩, .int .i64 (240 - (1 + (m : Int)))] W fun e w' => e = .returned (.string Q) ∧ Below W.heap.size W w' := fun W => by rw [hQ]; exact hrep W
        have HQ := Lib.hid hQ
        clear hrep hP hQ
        go_wp2_with fail
        with_reducible refine (hF _ hbu).mono ?_
        rintro e w2 ⟨rfl, rfl⟩
        go_wp2_with fail
        with_reducible refine (hst _ hbu hbw.size).mono ?_
        rintro e w3 ⟨rfl, hbu3, hb3, _⟩
        have hbw3 := hbw.trans hb3
        go_wp2_with fail
        with_reducible refine (hF _ hbu3).mono ?_
        rintro e w4 ⟨rfl, rfl⟩
        go_wp2_with fail
        with_reducible refine (hrep' _).mono ?_
        rintro e w5 ⟨rfl, hb5⟩
        have hbw5 := below_base hbw3 hbw3.size hb5
        clear hbu hbw hbu3 hb3 hb5 hbw3 hst hF hrep'
        go_wp2_with fail
        go_ret2
        refine ⟨?_, hbw5⟩
        unfold putRes
        rw [if_pos (by rw [← Hm.out]; exact hm), HQ.out, repeat_one]
        exact congrArg (fun x => Ending.returned (.tuple #[.string x, .bool true])) hbs
      · have f1 : decide ((240 : Int) < ((1 + m : Nat) : Int)) = true := decide_eq_true (by omega)
        go_wp2_with fail
        with_reducible refine (hF _ hbu).mono ?_
        rintro e w2 ⟨rfl, rfl⟩
        go_wp2_with fail
        go_ret2
        refine ⟨?_, hbw⟩
        unfold putRes
        rw [if_neg (by rw [← Hm.out]; exact hm)]
        rfl
end Go.Proofs.YtijhamllnnilbaaGreatDoor.Ha
