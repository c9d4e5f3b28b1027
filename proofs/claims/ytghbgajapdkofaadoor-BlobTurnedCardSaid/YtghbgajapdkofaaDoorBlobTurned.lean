/- The law BlobTurned: its walk. -/
import Derived.Test.YtghbgajapdkofaaDoorBlobTurnedPure
import Derived.Test.YtghbgajapdkofaaDoorBlobSizes
namespace Go.Proofs.YtghbgajapdkofaaDoor.Bl
open Go.RowKit Go.Proofs.YtghbgajapdkofaaDoor.Mem Go.Proofs.YtghbgajapdkofaaDoor.Pg

/-- The places 20, 21, as many as there are pages. -/
def at20 (K : Nat) : List Int := [20, 21].take K
theorem at20_len {K : Nat} (h : K ≤ 2) : (at20 K).length = K := by simp [at20]; omega
theorem putOk_20 {l : List UInt8} {K : Nat} (hK : K = 1 ∨ K = 2) (h : pgN l.length = K) : PutOk l (at20 K) := by
  rcases hK with rfl | rfl
  · refine ⟨by simp [at20], by rw [h]; rfl, fun i hi => ?_⟩
    match i, hi with
    | 0, _ => exact ⟨by decide, by decide, by decide⟩
  · refine ⟨by simp [at20], by rw [h]; rfl, fun i hi => ?_⟩
    match i, hi with
    | 0, _ => exact ⟨by decide, by decide, by decide⟩
    | 1, _ => exact ⟨by decide, by decide, by decide⟩
theorem ints_20 (W : World) (e : TypeId) (K : Nat) (hK : K ≤ 2) (g : Nat) (hg : g = W.heap.size) : Ints (W.alloc (.cells #[.int .i64 20, .int .i64 21] e)) (some ⟨g, 0, none⟩) K (at20 K) := by
  subst hg
  refine ⟨at20_len hK, by omega, fun h0 => ⟨W.heap.size, 0, rfl, by simp, fun j hj => ?_⟩⟩
  rw [Nat.zero_add, cell_of_row _ _ _ _ _ _ (heap_alloc_new W _)]
  rcases (show j = 0 ∨ j = 1 from by omega) with rfl | rfl
  · simp [at20, List.getD_eq_getElem?_getD, List.getElem?_take, h0]
  · simp [at20, List.getD_eq_getElem?_getD, List.getElem?_take, hj]

/-- The remainder as the code makes it. -/
theorem rem_code (a : Int) (K : Nat) (h : 0 < K) (hK : K ≤ 1000) : ∃ i : Nat, i < K ∧ (wrap64 (a.tmod K + K)).tmod K = (i : Int) := by
  have h1 : -(K : Int) < a.tmod K := by
    have := Int.lt_tmod_of_pos a (show (0 : Int) < K from by omega)
    omega
  have h2 : a.tmod K < K := Int.tmod_lt_of_pos a (by omega)
  rw [IntWalk.wrap64_in _ (by omega)]
  refine ⟨((a.tmod K + K).tmod K).toNat, ?_, ?_⟩
  · have h3 := Int.tmod_lt_of_pos (a.tmod K + K) (show (0 : Int) < K from by omega)
    have h4 := Int.tmod_nonneg (K : Int) (show 0 ≤ a.tmod K + K from by omega)
    omega
  · have h4 := Int.tmod_nonneg (K : Int) (show 0 ≤ a.tmod K + K from by omega)
    omega

theorem rows_one (l : List UInt8) (at' : List Int) (n : Nat) : ∀ u ∈ rows l at' n, u.oneCell' = true := by
  induction n with
  | zero => intro u hu; cases hu
  | succ n ih =>
    intro u hu
    rw [rows, List.mem_append] at hu
    rcases hu with hu | hu
    · exact ih u hu
    · simp [pgRow] at hu
      rcases hu with rfl | rfl | rfl | rfl <;> rfl
theorem own_add {w : World} {base n g cap m : Nat} {e : TypeId} {size : Nat} {xs : List Value} (h : w.ownsRow base e size (.slice (some ⟨g, 0, none⟩) m cap) n xs) (j : Nat) (u : Value) (hj : xs[j]? = some u) : w.cell? ((⟨g, 0, none⟩ : Addr).add j) = some u := h.cells (g := g) rfl j u hj

theorem in_code {i k n : Nat} (h : k < nAt (n : Int) i) : decide ((i : Int) * 200 + (k : Int) < (n : Int)) = true ∧ decide ((k : Int) < 200) = true := by
  unfold nAt at h
  constructor
  · exact decide_eq_true (by omega)
  · exact decide_eq_true (by omega)
theorem out_code {i k n : Nat} (h : ¬ k < nAt (n : Int) i) (h1 : (i : Int) * 200 + (k : Int) < (n : Int)) : decide ((k : Int) < 200) = false := by
  unfold nAt at h
  exact decide_eq_false (by omega)

set_option maxRecDepth 100000 in
set_option maxHeartbeats 4000000 in
theorem turned_yes (l : List UInt8) (a : Int) (c : UInt8) (K : Nat) (w : World) (hK : K = 1 ∨ K = 2) (hp : pgN l.length = K) (hc : c ≠ 0) :
    Calls Tryd.prog 4 #[.string (str l), .int .i64 a, .int .u8 c.toNat] w fun e w' => e = .returned (.bool true) ∧ Below w.heap.size w w' := by
  have hl : 40 < l.length ∧ l.length ≤ 400 := by unfold pgN at hp; split at hp <;> omega
  have hpg := fun w => blobPages_any l.length w (by omega)
  rw [hp] at hpg
  have hok := putOk_20 hK hp
  have hK2 : K ≤ 2 := by omega
  have hput := fun A cap w hz hc => put_any l A K cap (at20 K) w (by omega) hz hc
  have dK : ((K : Int) == 0) = false := by simp; omega
  have dc : ((c.toNat : Int) == 0) = false := by
    simp
    intro h
    exact hc (UInt8.toNat_inj.1 (by simpa using h))
  have hsl : (str l).size = l.length := str_size l
  obtain ⟨i, hi, hie⟩ := rem_code a K (by omega) (by omega)
  obtain ⟨k, hk, hke0⟩ := rem_code a 240 (by omega) (by omega)
  have hke : (wrap64 (a.tmod 240 + 240)).tmod 240 = (k : Int) := hke0
  clear hke0
  have Hl := Lib.hid hl
  have Hok := Lib.hid hok
  have HK := Lib.hid hK
  have Hc := Lib.hid hc
  have Hi := Lib.hid hi
  have Hk := Lib.hid hk
  obtain ⟨S, hS⟩ : ∃ S, S = str l := ⟨_, rfl⟩
  obtain ⟨N, hN⟩ : ∃ N, N = l.length := ⟨_, rfl⟩
  rw [← hS] at hput hsl ⊢
  rw [← hN] at hsl hpg
  have HS := Lib.hid hS
  have HN := Lib.hid hN
  clear hok hl hK hp hc hS hN hi hk
  go_enter Tryd.func4, Tryd.ntmps4
  go_wp2_with (first | (go_at_call 6; refine (alive_any _).mono ?_; rintro e w1 ⟨rfl, hb1⟩) | (go_at_call 7; refine (hpg _).mono ?_; rintro e w2 ⟨rfl, rfl⟩))
  have hput' := hput (some ⟨w1.heap.size, 0, none⟩) 2 _ (ints_20 w1 3 K hK2 w1.heap.size rfl) hK2
  clear hput
  with_reducible refine hput'.mono ?_
  clear hput' hpg
  rintro e w4 (⟨_, v4, rfl, own4, hb4⟩ | ⟨hno, _⟩)
  case inr => exact absurd Hok.out hno
  rw [at20_len hK2] at own4
  obtain ⟨gl, cl, rfl, hgl, hgll⟩ := own4.form (by have := HK.out; omega)
  have hbw4 : Below w2.heap.size w2 w4 := below_tr hb1 (below_base (below_al (Below.refl _ w1) _) (by simp) hb4)
  have hcl := (own_cap own4).2
  have hi2 := Hi.out
  have hk2 := Hk.out
  clear hb1 hb4
  have hsrc := own_at own4 (i * 4 + 3) _ (by rw [rows_get l (at20 K) K i 3 hi2 (by omega)]; rfl)
  obtain ⟨B, hB⟩ : ∃ B, B = str (body l i) := ⟨_, rfl⟩
  rw [← hB] at hsrc
  have HB := Lib.hid hB
  have hBs : B.size = 240 := by rw [hB, str_size, body_len]
  have hi0 : (i : Int) < (K : Int) := by omega
  have hk0 : (k : Int) < 240 := by omega
  clear hB
  obtain ⟨i0, hif, hz0, hz1, hz2⟩ := info_parts info_page
  have hrl := rows_length l (at20 K) K
  have hrc := rows_one l (at20 K) K
  go_wp2_with (at_builtin; refine wpList_append_own _ rfl (.const (.slice none 0 0)) (.tmp 65) _ rfl w4.heap.size 30 i0 (.agg #[.int .i64 0, .int .i64 0, .int .i64 0, .string ⟨#[]⟩]) 4 40 Tryd.underlying24 hif hz0 hz1 hz2 rfl (by decide) _ 0 [] rfl (World.ownsRow_nil _ _ _ _) ⟨gl, 0, none⟩ K cl (rows l (at20 K) K) rfl hrl (fun j u hj => own_add own4 j u hj) hrc (by unfold maxLen; omega) (by omega) (Nat.le_refl _) ?_; intro v6 w6 own6 hgrow _)
  have hg6 : w4.grownBy w6 none := hgrow
  rw [Nat.zero_add, List.nil_append] at own6
  obtain ⟨gm, cm, rfl, hgm, hgml⟩ := own6.form (by have := HK.out; omega)
  have hpg6 := Lib.hid (pgs_own own6 (by omega) hgml)
  have hbw6 : Below w2.heap.size w2 w6 := hbw4.grown hg6 hbw4.size (fun k hk => by cases hk)
  have hc6 := own_at own6 (i * 4 + 3) _ (by rw [rows_get l (at20 K) K i 3 hi2 (by omega)]; rfl)
  have hf6 := own_free own6 (i * 4 + 3)
  rw [← HB.out] at hc6
  obtain ⟨x, hx⟩ : ∃ x, x = (body l i).getD k 0 := ⟨_, rfl⟩
  have hidx : ∀ h : k < B.size, ((B[k]'h).toNat : Int) = (x.toNat : Int) := fun h => by
    subst hx
    have hB := HB.out
    subst hB
    have hk' : k < (body l i).length := by rw [body_len]; omega
    rw [List.getD_eq_getElem?_getD, List.getElem?_eq_getElem hk', Option.getD_some]
    rfl
  have hxor := bits_xor_u8 x c
  have hcv := fun W g cc => conv_one W g cc (x ^^^ c)
  have hfin : B.extract 0 k ++ ⟨#[x ^^^ c]⟩ ++ B.extract (k + 1) 240 = str ((body l i).set k (x ^^^ c)) := by
    rw [HB.out]
    have h1 := cut_set (body l i) k (x ^^^ c) (by rw [body_len]; omega)
    rw [str_size, body_len] at h1
    exact h1
  obtain ⟨F, hF⟩ : ∃ F, F = str ((body l i).set k (x ^^^ c)) := ⟨_, rfl⟩
  rw [← hF] at hfin
  have HF := Lib.hid hF
  have Hx := Lib.hid hx
  have hk1 : IntKind.i64.wrap ((k : Int) + 1) = (k : Int) + 1 := IntWalk.i64_in _ (by omega)
  have hk3 : ((k : Int) + 1).toNat = k + 1 := by omega
  have hk4 : (k : Int) + 1 ≤ 240 := by omega
  have hk5 : k + 1 ≤ 240 := by omega
  have hk6 : (k : Int) ≤ 240 := by omega
  have hk7 : (0 : Int) ≤ (k : Int) + 1 := by omega
  clear hF hx hie hke own4 own6 hgrow hg6 hsrc hrl hrc hif hz0 hz1 hz2
  refine wp_region_held_drew (S := fun _ => True) (by kernel_rfl) (trivial) (fun hHeld => ?_)
  refine wpAnyH_take (i := 0) (v := ?_) rfl (by kernel_rfl) (by kernel_rfl) (by kernel_rfl) (fun _ _ _ h => h) (Or.inl ⟨by rfl, ?_⟩) hHeld ?_
  rotate_left
  · intro w hSw
    try dsimp only at hSw
    go_simp
    try rw [if_neg (by omega)]
    try rw [if_pos (by omega)]
    try with_reducible rfl
  try simp only [Act.put, List.setIfInBounds_toArray, List.set_cons_zero, List.set_cons_succ]
  refine wpAnyH_take (i := 1) (v := ?_) rfl (by kernel_rfl) (by kernel_rfl) (by kernel_rfl) (fun _ _ _ h => h) (Or.inl ⟨by rfl, ?_⟩) hHeld ?_
  rotate_left
  · intro w hSw
    try dsimp only at hSw
    go_simp
    try rw [if_neg (by omega)]
    try rw [if_pos (by omega)]
    try with_reducible rfl
  try simp only [Act.put, List.setIfInBounds_toArray, List.set_cons_zero, List.set_cons_succ]
  refine wpAnyH_take (i := 2) (v := ?_) rfl (by kernel_rfl) (by kernel_rfl) (by kernel_rfl) (fun _ _ _ h => h) (Or.inl ⟨by rfl, ?_⟩) hHeld ?_
  rotate_left
  · intro w hSw
    try dsimp only at hSw
    go_simp
    try rw [if_neg (by omega)]
    try rw [if_pos (by omega)]
    try with_reducible rfl
  try simp only [Act.put, List.setIfInBounds_toArray, List.set_cons_zero, List.set_cons_succ]
  refine wpAnyH_take (i := 3) (v := ?_) rfl (by kernel_rfl) (by kernel_rfl) (by kernel_rfl) (fun _ _ _ h => h) (Or.inl ⟨by rfl, ?_⟩) hHeld ?_
  rotate_left
  · intro w hSw
    try dsimp only at hSw
    go_simp
    try rw [if_neg (by omega)]
    try rw [if_pos (by omega)]
    try with_reducible rfl
  try simp only [Act.put, List.setIfInBounds_toArray, List.set_cons_zero, List.set_cons_succ]
  refine wpAnyH_take (i := 4) (v := ?_) rfl (by kernel_rfl) (by kernel_rfl) (by kernel_rfl) (fun _ _ _ h => h) (Or.inl ⟨by rfl, ?_⟩) hHeld ?_
  rotate_left
  · intro w hSw
    try dsimp only at hSw
    go_simp
    try rw [if_neg (by omega)]
    try rw [if_pos (by omega)]
    try with_reducible rfl
  try simp only [Act.put, List.setIfInBounds_toArray, List.set_cons_zero, List.set_cons_succ]
  refine wpAnyH_take (i := 5) (v := ?_) rfl (by kernel_rfl) (by kernel_rfl) (by kernel_rfl) (fun _ _ _ h => h) (Or.inl ⟨by rfl, ?_⟩) hHeld ?_
  rotate_left
  · intro w hSw
    try dsimp only at hSw
    go_simp
    try rw [if_neg (by omega)]
    try rw [if_pos (by omega)]
    try with_reducible rfl
  try simp only [Act.put, List.setIfInBounds_toArray, List.set_cons_zero, List.set_cons_succ]
  refine wpAnyH_take (i := 6) (v := ?_) rfl (by kernel_rfl) (by kernel_rfl) (by kernel_rfl) (fun _ _ _ h => h) (Or.inl ⟨by rfl, ?_⟩) hHeld ?_
  rotate_left
  · intro w hSw
    try dsimp only at hSw
    go_simp
    try rw [if_neg (by omega)]
    try rw [if_pos (by omega)]
    try with_reducible rfl
  try simp only [Act.put, List.setIfInBounds_toArray, List.set_cons_zero, List.set_cons_succ]
  refine wpAnyH_take (i := 7) (v := ?_) rfl (by kernel_rfl) (by kernel_rfl) (by kernel_rfl) (fun _ _ _ h => h) (Or.inl ⟨by rfl, ?_⟩) hHeld ?_
  rotate_left
  · intro w hSw
    try dsimp only at hSw
    go_simp
    try rw [if_neg (by omega)]
    try rw [if_pos (by omega)]
    try with_reducible rfl
  try simp only [Act.put, List.setIfInBounds_toArray, List.set_cons_zero, List.set_cons_succ]
  refine wpAnyH_take (i := 8) (v := ?_) rfl (by kernel_rfl) (by kernel_rfl) (by kernel_rfl) (fun _ _ _ h => h) (Or.inl ⟨by rfl, ?_⟩) hHeld ?_
  rotate_left
  · intro w hSw
    try dsimp only at hSw
    go_simp
    try rw [if_neg (by omega)]
    try rw [if_pos (by omega)]
    try with_reducible rfl
  try simp only [Act.put, List.setIfInBounds_toArray, List.set_cons_zero, List.set_cons_succ]
  refine wpAnyH_take (i := 9) (v := ?_) rfl (by kernel_rfl) (by kernel_rfl) (by kernel_rfl) (fun _ _ _ h => h) (Or.inl ⟨by rfl, ?_⟩) hHeld ?_
  rotate_left
  · intro w hSw
    try dsimp only at hSw
    go_simp
    try rw [if_neg (by omega)]
    try rw [if_pos (by omega)]
    try with_reducible rfl
  try simp only [Act.put, List.setIfInBounds_toArray, List.set_cons_zero, List.set_cons_succ]
  refine wpAnyH_take (i := 13) (v := ?_) rfl (by kernel_rfl) (by kernel_rfl) (by kernel_rfl) (fun _ _ _ h => h) (Or.inl ⟨by rfl, ?_⟩) hHeld ?_
  rotate_left
  · intro w hSw
    try dsimp only at hSw
    go_simp
    try rw [if_neg (by omega)]
    try rw [if_pos (by omega)]
    try with_reducible rfl
  try simp only [Act.put, List.setIfInBounds_toArray, List.set_cons_zero, List.set_cons_succ]
  refine wpAnyH_take (i := 14) (v := ?_) rfl (by kernel_rfl) (by kernel_rfl) (by kernel_rfl) (fun _ _ _ h => h) (Or.inl ⟨by rfl, ?_⟩) hHeld ?_
  rotate_left
  · intro w hSw
    try dsimp only at hSw
    go_simp
    try rw [if_neg (by omega)]
    try rw [if_pos (by omega)]
    try with_reducible rfl
  try simp only [Act.put, List.setIfInBounds_toArray, List.set_cons_zero, List.set_cons_succ]
  refine wpAnyH_take (i := 15) (v := ?_) rfl (by kernel_rfl) (by kernel_rfl) (by kernel_rfl) (fun _ _ _ h => h) (Or.inl ⟨by rfl, ?_⟩) hHeld ?_
  rotate_left
  · intro w hSw
    try dsimp only at hSw
    go_simp
    try rw [if_neg (by omega)]
    try rw [if_pos (by omega)]
    try with_reducible rfl
  try simp only [Act.put, List.setIfInBounds_toArray, List.set_cons_zero, List.set_cons_succ]
  refine wpAnyH_take (i := 16) (v := ?_) rfl (by kernel_rfl) (by kernel_rfl) (by kernel_rfl) (fun _ _ _ h => h) (Or.inl ⟨by rfl, ?_⟩) hHeld ?_
  rotate_left
  · intro w hSw
    try dsimp only at hSw
    go_simp
    try rw [if_neg (by omega)]
    try rw [if_pos (by omega)]
    try with_reducible rfl
  try simp only [Act.put, List.setIfInBounds_toArray, List.set_cons_zero, List.set_cons_succ]
  refine wpAnyH_ready (rs := [10]) (by kernel_rfl) (by simp) ?_
  refine AllReadyH.cons rfl (fun K hK => ?_) AllReadyH.nil
  go_simp
  refine hK.out _ _ (trivial) (fun hHeld2 => ?_)
  clear hK K
  try clear hHeld
  have hHeld := hHeld2
  try clear hHeld2
  refine wpAnyH_ready (rs := [11]) (by kernel_rfl) (by simp) ?_
  refine AllReadyH.cons rfl (fun K hK => ?_) AllReadyH.nil
  go_simp
  refine hK.out _ _ (trivial) (fun hHeld2 => ?_)
  clear hK K
  try clear hHeld
  have hHeld := hHeld2
  try clear hHeld2
  refine wpAnyH_take (i := 12) (v := ?_) rfl (by kernel_rfl) (by kernel_rfl) (by kernel_rfl) (fun _ _ _ h => h) (Or.inl ⟨by rfl, ?_⟩) hHeld ?_
  rotate_left
  · intro w hSw
    try dsimp only at hSw
    go_simp
    try rw [if_neg (by omega)]
    try rw [if_pos (by omega)]
    try with_reducible rfl
  try simp only [Act.put, List.setIfInBounds_toArray, List.set_cons_zero, List.set_cons_succ]
  refine wpAnyH_take (i := 17) (v := ?_) rfl (by kernel_rfl) (by kernel_rfl) (by kernel_rfl) (fun _ _ _ h => h) (Or.inl ⟨by rfl, ?_⟩) hHeld ?_
  rotate_left
  · intro w hSw
    try dsimp only at hSw
    go_simp
    try rw [if_neg (by omega)]
    try rw [if_pos (by omega)]
    try with_reducible rfl
  try simp only [Act.put, List.setIfInBounds_toArray, List.set_cons_zero, List.set_cons_succ]
  refine wpAnyH_take (i := 18) (v := ?_) rfl (by kernel_rfl) (by kernel_rfl) (by kernel_rfl) (fun _ _ _ h => h) (Or.inl ⟨by rfl, ?_⟩) hHeld ?_
  rotate_left
  · intro w hSw
    try dsimp only at hSw
    go_simp
    try rw [if_neg (by omega)]
    try rw [if_pos (by omega)]
    try with_reducible rfl
  try simp only [Act.put, List.setIfInBounds_toArray, List.set_cons_zero, List.set_cons_succ]
  refine wpAnyH_take (i := 19) (v := ?_) rfl (by kernel_rfl) (by kernel_rfl) (by kernel_rfl) (fun _ _ _ h => h) (Or.inl ⟨by rfl, ?_⟩) hHeld ?_
  rotate_left
  · intro w hSw
    try dsimp only at hSw
    go_simp
    try rw [if_neg (by omega)]
    try rw [if_pos (by omega)]
    try with_reducible rfl
  try simp only [Act.put, List.setIfInBounds_toArray, List.set_cons_zero, List.set_cons_succ]
  refine wpAnyH_ready (rs := [20]) (by kernel_rfl) (by simp) ?_
  refine AllReadyH.cons rfl (fun K hK => ?_) AllReadyH.nil
  go_simp
  refine hK.out _ _ (trivial) (fun hHeld2 => ?_)
  clear hK K
  try clear hHeld
  have hHeld := hHeld2
  try clear hHeld2
  refine wpAnyH_done (by kernel_rfl) ?_ _
  have hpT := (pgs_turned (k := k) (c := c) hpg6.out (putPg_at l (at20 K) K i hi2) (S := F) (by rw [HF.out, Hx.out])).below (below_dr (below_al (Below.refl _ (w6.setCell ⟨gm, i * 4 + 3, none⟩ (.string F))) (.cells #[.int .u8 ((x ^^^ c).toNat : Int)] 5)))
  have hbT : Below w2.heap.size w2 ((w6.setCell ⟨gm, i * 4 + 3, none⟩ (.string F)).alloc (.cells #[.int .u8 ((x ^^^ c).toNat : Int)] 5)).drew := below_dr (below_al (below_set hbw6 (Nat.le_trans hbw4.size hgm)) _)
  have hbF : Hid (∀ {w8 : World}, Below (((w6.setCell ⟨gm, i * 4 + 3, none⟩ (.string F)).alloc (.cells #[.int .u8 ((x ^^^ c).toNat : Int)] 5)).drew).heap.size ((w6.setCell ⟨gm, i * 4 + 3, none⟩ (.string F)).alloc (.cells #[.int .u8 ((x ^^^ c).toNat : Int)] 5)).drew w8 → Below w2.heap.size w2 w8) := fun {w8} h => below_base hbT hbT.size h
  have hxe : ((x ^^^ c).toNat : Int) = ((x.toNat ^^^ c.toNat : Nat) : Int) := by rw [UInt8.toNat_xor]
  rw [hxe] at hpT hbF
  clear hxe
  clear hbT hbw6 hbw4 hpg6 hc6 hf6 hidx hxor hcv hfin hk1 hk3 hk4 hk5 hk6 hk7
  have hKl := at20_len hK2
  have hNl : (N : Int) = (l.length : Int) := by rw [HN.out]
  have hpT' := hpT
  rw [show putPg l (at20 K) K = putPg l (at20 K) (at20 K).length from by rw [hKl]] at hpT'
  clear hpT
  by_cases hin : k < nAt (l.length : Int) i
  · obtain ⟨hok, hne⟩ := turned_in Hok.out Hc.out (by rw [hKl]; exact hi2) hin
    have hget := get_yes (cap := cm) hok hpT'
    rw [turned_len, putPg, List.length_map, List.length_range] at hget
    rw [hKl, ← hNl] at hget
    have hin' := hin
    rw [← hNl] at hin'
    obtain ⟨hdi, hdk⟩ := in_code hin'
    clear hin'
    obtain ⟨R, hR⟩ : ∃ R, R = str (got (N : Int) (turned ((List.range K).map fun i => (⟨5, 0, nextOf (at20 K) i, body l i⟩ : Pg)) i k c) K) := ⟨_, rfl⟩
    rw [← hR] at hget
    have hRS : (R.toList == S.toList) = false := by
      rw [Bool.eq_false_iff]
      intro h
      have h2 := (Lib.bytes_beq_iff R S).1 h
      rw [hR, HS.out, hNl] at h2
      injection h2 with h2
      rw [hKl] at hne
      exact hne (by simpa [putPg] using congrArg Array.toList h2)
    clear hR hok hne hpT' hin hNl
    go_wp2_with fail
    with_reducible refine hget.mono ?_
    rintro e w8 ⟨rfl, hb8⟩
    go_wp2
    go_ret
    exact ⟨rfl, hbF.out hb8⟩
  · have hno := turned_out Hok.out Hc.out (by rw [hKl]; exact hi2) hin hk2
    have hget := get_no (cap := cm) hno hpT'
    rw [← hNl] at hget
    by_cases h1 : (i : Int) * 200 + (k : Int) < (N : Int)
    · have hdi : decide ((i : Int) * 200 + (k : Int) < (N : Int)) = true := decide_eq_true h1
      have hin' := hin
      rw [← hNl] at hin'
      have hdk := out_code hin' h1
      clear hin'
      clear hno hpT' hin hNl h1
      go_wp2_with fail
      with_reducible refine hget.mono ?_
      rintro e w8 ⟨rfl, hb8⟩
      go_wp2
      go_ret
      exact ⟨rfl, hbF.out hb8⟩
    · have hdi : decide ((i : Int) * 200 + (k : Int) < (N : Int)) = false := decide_eq_false h1
      clear hno hpT' hin hNl h1
      go_wp2_with fail
      with_reducible refine hget.mono ?_
      rintro e w8 ⟨rfl, hb8⟩
      go_wp2
      go_ret
      exact ⟨rfl, hbF.out hb8⟩

theorem turned_no' (s : ByteArray) (a : Int) (c : Int) (w : World) (h : pgN s.size = 0 ∨ c = 0) (hs : s.size ≤ 140737488351232) :
    Calls Tryd.prog 4 #[.string s, .int .i64 a, .int .u8 c] w fun e w' => e = .returned (.bool true) ∧ Below w.heap.size w w' := by
  have hpg := fun w => blobPagesI_any s.size w
  rw [pgI_nat] at hpg
  by_cases h0 : pgN s.size = 0
  · rw [h0] at hpg
    go_enter Tryd.func4, Tryd.ntmps4
    go_wp2_with (first | (go_at_call 6; refine (alive_any _).mono ?_; rintro e w1 ⟨rfl, hb1⟩) | (go_at_call 7; refine (hpg _).mono ?_; rintro e w2 ⟨rfl, rfl⟩))
    go_ret
    exact ⟨rfl, hb1⟩
  · have hc := h.resolve_left h0
    subst hc
    have d0 : ((pgN s.size : Int) == 0) = false := by simp; exact h0
    generalize pgN s.size = P at *
    go_enter Tryd.func4, Tryd.ntmps4
    go_wp2_with (first | (go_at_call 6; refine (alive_any _).mono ?_; rintro e w1 ⟨rfl, hb1⟩) | (go_at_call 7; refine (hpg _).mono ?_; rintro e w2 ⟨rfl, rfl⟩))
    go_ret
    exact ⟨rfl, hb1⟩
theorem turned_any (s : ByteArray) (a c : Int) (w : World) (hs : s.size ≤ 140737488351232) (hc : 0 ≤ c ∧ c ≤ 255) :
    Calls Tryd.prog 4 #[.string s, .int .i64 a, .int .u8 c] w fun e w' => e = .returned (.bool true) ∧ Below w.heap.size w w' := by
  by_cases h : pgN s.size = 0 ∨ c = 0
  · exact turned_no' s a c w h hs
  · obtain ⟨C, hC⟩ : ∃ C : UInt8, (C.toNat : Int) = c := ⟨UInt8.ofNat c.toNat, by simp; omega⟩
    subst hC
    rw [str_of s] at h ⊢
    rw [str_size] at h
    have h2 := pgN_le s.data.toList.length
    exact turned_yes _ a C _ w (by omega) rfl (fun e => h (.inr (by rw [e]; rfl)))
end Go.Proofs.YtghbgajapdkofaaDoor.Bl
