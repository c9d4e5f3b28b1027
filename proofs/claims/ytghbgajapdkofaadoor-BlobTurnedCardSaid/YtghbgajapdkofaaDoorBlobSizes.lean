/- The law BlobSizes: its walk. -/
import Derived.Test.YtghbgajapdkofaaDoorBlobOthers
namespace Go.Proofs.YtghbgajapdkofaaDoor.Bl
open Go.RowKit Go.Proofs.YtghbgajapdkofaaDoor.Mem Go.Proofs.YtghbgajapdkofaaDoor.Pg

theorem info_int : (Tryd.prog.info? 3).map (fun i => (i.zero, i.size, i.bytes)) = some (some (.int .i64 0), 1, 8) := by kernel_rfl
/-- The places 10, 11, .. -/
def atL (j : Nat) : List Int := (List.range j).map fun (i : Nat) => 10 + (i : Int)
theorem atL_len (j : Nat) : (atL j).length = j := by simp [atL]
theorem atL_succ (j : Nat) : atL (j + 1) = atL j ++ [10 + (j : Int)] := by simp [atL, List.range_succ]
theorem putOk_atL {l : List UInt8} {k : Nat} (hk : k = 1 ∨ k = 2) (h : pgN l.length = k) : PutOk l (atL k) := by
  rcases hk with rfl | rfl
  · refine ⟨by simp [atL], by rw [h]; rfl, fun i hi => ?_⟩
    match i, hi with
    | 0, _ => exact ⟨by decide, by decide, by decide⟩
  · refine ⟨by simp [atL], by rw [h]; rfl, fun i hi => ?_⟩
    match i, hi with
    | 0, _ => exact ⟨by decide, by decide, by decide⟩
    | 1, _ => exact ⟨by decide, by decide, by decide⟩

theorem own_grown {w w1 : World} {base : Nat} {e : TypeId} {size n : Nat} {v v' : Value} {xs : List Value} (h : w.ownsRow base e size v n xs) (hg : w.grownBy w1 v'.ownBlock) (hne : ∀ k, v.ownBlock = some k → v'.ownBlock ≠ some k) : w1.ownsRow base e size v n xs := by
  refine h.kept hg ?_
  cases hv : v.ownBlock with
  | none => exact .inl rfl
  | some k => right; intro he; exact hne k hv he.symm

theorem ints_own {w : World} {base n c : Nat} {e : TypeId} {A : Option Addr} {xs : List Int} (h : w.ownsRow base e 1 (.slice A n c) n (ints xs)) : Ints w A n xs := by
  obtain ⟨A', c', he, hi⟩ := ints_of_own h
  injection he with h1 _ _
  subst h1
  exact hi
theorem pgs_prefix {w : World} {A : Option Addr} {n : Nat} {l : List Pg} (h : Pgs w A n l) (m : Nat) (hm : m ≤ n) : Pgs w A m (l.take m) := by
  refine ⟨by rw [List.length_take, h.1]; omega, by have := h.2.1; omega, fun h0 => ?_⟩
  obtain ⟨b, off, hA, hlt, hc⟩ := h.2.2 (by omega)
  refine ⟨b, off, hA, hlt, fun i p hp j u hu => hc i p ?_ j u hu⟩
  rw [List.getElem?_take] at hp
  split at hp
  · exact hp
  · cases hp
theorem put_nil (l : List UInt8) (hl : l.length ≤ 1000) (w : World) :
    Calls Tryd.prog 8 #[.string (str l), .slice none 0 0] w fun e w' => ∃ v, e = .returned (.tuple #[v, .bool false]) ∧ Below w.heap.size w w' := by
  refine (put_any l none 0 0 [] _ hl ⟨rfl, by omega, fun h => absurd h (by omega)⟩ (Nat.le_refl _)).mono ?_
  rintro e w2 (⟨hy, _⟩ | ⟨hno, rfl, hb2⟩)
  · exact absurd rfl hy.1
  · exact ⟨_, rfl, hb2⟩

theorem short_no {z : Int} {l : List Pg} (h : l.length ≠ pgI z) : ¬ GetOk z l := fun hk => h hk.2.1

set_option maxRecDepth 100000 in
set_option maxHeartbeats 4000000 in
theorem sizes_mid (n k : Nat) (w : World) (hk : k = 1 ∨ k = 2) (hp : pgN n = k) (h1 : 40 < n) (h2 : n ≤ 400) :
    Calls Tryd.prog 3 #[.int .i64 n] w fun e w' => e = .returned (.bool true) ∧ Below w.heap.size w w' := by
  have hzr := fun w => refZeros_any n w (by omega)
  have hpg := fun w => blobPages_any n w (by omega)
  rw [hp] at hpg
  have hl : (zs n).length = n := by rw [zs, List.length_replicate]
  have hok : PutOk (zs n) (atL k) := putOk_atL hk (by rw [hl]; exact hp)
  have hno : ¬ PutOk (zs n) (atL k ++ [30]) := fun h => by
    have := h.2.1
    rw [hl, hp, List.length_append, atL_len] at this
    simp at this
  obtain ⟨i0, hi, hz0, hz1, hz2⟩ := info_parts info_int
  have d0 : decide ((n : Int) < 0) = false := by simp
  have d1 : decide ((600 : Int) < (n : Int)) = false := by simp; omega
  have d2 : decide ((n : Int) ≤ 40) = false := by simp; omega
  have d3 : decide ((400 : Int) < (n : Int)) = false := by simp; omega
  have hk2 : k ≤ 2 := by omega
  have Hk := Lib.hid hk
  have Hl := Lib.hid hl
  have Hok := Lib.hid hok
  have Hno := Lib.hid hno
  have Hp := Lib.hid hp
  have hput := fun A cap w hz hc => put_any (zs n) A k cap (atL k) w (by rw [hl]; omega) hz hc
  have hput2 := fun A cap w hz hc => put_any (zs n) A (k + 1) cap (atL k ++ [30]) w (by rw [hl]; omega) hz hc
  obtain ⟨Z, hZ⟩ : ∃ Z, Z = str (zs n) := ⟨_, rfl⟩
  simp only [← hZ] at hzr hput hput2
  clear hk hl hok hno hp hZ
  go_enter Tryd.func3, Tryd.ntmps3
  go_wp2_with (go_at_call 6; refine (alive_any _).mono ?_; rintro e w1 ⟨rfl, hb1⟩)
  with_reducible refine (hpg _).mono ?_
  rintro e w2 ⟨rfl, rfl⟩
  clear hpg d0 d1
  go_wp2_with fail
  go_loopw [6, 7] (fun v i wr => ∃ j : Nat, i = .int .i64 j ∧ j ≤ k ∧ wr.ownsRow w2.heap.size 3 1 v j (ints (atL j)) ∧ Below w2.heap.size w2 wr) (fun _ i _ => k - (intOf i).toNat)
  case atStart => exact ⟨0, rfl, Nat.zero_le _, World.ownsRow_nil _ _ _ _, Below.refl _ _⟩
  case round =>
    obtain ⟨j, rfl, hj, hown, hbel⟩ := hrel
    by_cases hlt : j < k
    · have hjs : ints (atL (j + 1)) = ints (atL j) ++ [.int .i64 (10 + (j : Int))] := by simp [ints, atL_succ]
      have Hjs := Lib.hid hjs
      clear hjs
      go_wp2_with (at_builtin; refine wpList_append_own _ rfl (.tmp 51) (.tmp 54) _ rfl w2.heap.size 3 i0 (.int .i64 0) 1 8 Tryd.underlying28 hi hz0 hz1 hz2 rfl (by decide) _ j (ints (atL j)) rfl (hown.alloc _) ⟨wr.heap.size, 0, none⟩ 1 1 [.int .i64 (10 + (j : Int))] rfl rfl (cells_one _ _ _) (by intro u hu; simp at hu; subst hu; rfl) (by unfold maxLen; omega) (by omega) (by have := hbel.size; simp; omega) ?_; intro v' w4 hown4 hgrow _)
      go_roundw
      case rel => exact ⟨j + 1, by go_num, by omega, by rw [Hjs.out]; exact hown4, below_grown (below_al hbel _) (by have := hbel.size; simp; omega) hown hgrow⟩
      case measure => simp [intOf]; omega
    · obtain rfl : j = k := by omega
      obtain ⟨ga, ca, rfl, hga, hgal⟩ := hown.form (by have := Hk.out; omega)
      go_wp2_with fail
      with_reducible refine (hzr _).mono ?_
      rintro e w3 ⟨rfl, hb3⟩
      have own3 := own_below hown hb3
      have hbw3 := below_base hbel hbel.size hb3
      have hga3 := Nat.lt_of_lt_of_le hgal hb3.size
      clear hown hb3 hbel hgal
      have hput' := hput (some ⟨ga, 0, none⟩) ca w3 (ints_own own3) (own_cap own3).2
      clear hput
      go_wp2_with fail
      with_reducible refine hput'.mono ?_
      clear hput'
      rintro e w4 (⟨_, v4, rfl, own4, hb4⟩ | ⟨hno, _⟩)
      case inr => exact absurd Hok.out hno
      rw [atL_len] at own4
      obtain ⟨gl, cl, rfl, hgl, hgll⟩ := own4.form (by have := Hk.out; omega)
      have oat4 := own_below own3 hb4
      have hbw4 := below_base hbw3 hbw3.size hb4
      have hne : ga ≠ gl := by omega
      have hga4 := Nat.lt_of_lt_of_le hga3 hb4.size
      clear own3 hb4 hbw3 hga3
      go_wp2_with fail
      with_reducible refine (hzr _).mono ?_
      rintro e w5 ⟨rfl, hb5⟩
      have own5 := own_below own4 hb5
      have oat5 := own_below oat4 hb5
      have hbw5 := below_base hbw4 hbw4.size hb5
      have hgl5 := Nat.lt_of_lt_of_le hgll hb5.size
      clear own4 oat4 hb5 hbw4 hgll hzr
      go_wp2_with (at_builtin; refine wpList_append_own _ rfl (.tmp 66) (.tmp 67) _ rfl w2.heap.size 3 i0 (.int .i64 0) 1 8 Tryd.underlying28 hi hz0 hz1 hz2 rfl (by decide) _ j (ints (atL j)) rfl (oat5.alloc _) ⟨w5.heap.size, 0, none⟩ 1 1 [.int .i64 30] rfl rfl (cells_one _ _ _) (by intro u hu; simp at hu; subst hu; rfl) (by unfold maxLen; omega) (by omega) (by have := hbw5.size; simp; omega) ?_; intro v6 w6 oat6 hgrow _)
      have hg6 : (w5.alloc (.cells #[.int .i64 30] 3)).grownBy w6 (Value.slice (some ⟨ga, 0, none⟩) j ca).ownBlock := hgrow
      have own6 := own_grown (own5.alloc _) hg6 (fun k hk he => hne (by simp [Value.ownBlock] at hk he; omega))
      have hbw6 := below_grown (below_al hbw5 _) (by have := hbw5.size; simp; omega) oat5 hg6
      have hgl6 : gl < w6.heap.size := Nat.lt_of_lt_of_le hgl5 (Nat.le_trans (by simp) hg6.size)
      clear hgrow hg6 own5 oat5 hbw5 hgl5
      have e6 : ints (atL j) ++ [Value.int .i64 30] = ints (atL j ++ [30]) := by simp [ints]
      rw [e6] at oat6
      obtain ⟨A6, c6, rfl⟩ := own_slice oat6
      have hput2' := hput2 A6 c6 w6 (ints_own oat6) (by
        obtain ⟨g6, c6', he, _⟩ := oat6.form (by omega)
        rw [he] at oat6
        injection he with _ _ he3
        subst he3
        exact (own_cap oat6).2)
      clear hput2 e6 oat6
      with_reducible refine hput2'.mono ?_
      clear hput2'
      rintro e w7 (⟨hyes, _⟩ | ⟨_, rfl, hb7⟩)
      case inl => exact absurd hyes Hno.out
      have own7 := own_below own6 hb7
      have hgl7 := Nat.lt_of_lt_of_le hgl6 hb7.size
      have hbw7 := below_tr hb1 (below_base hbw6 hbw6.size hb7)
      clear own6 hb7 hbw6 hgl6 hb1 hj hlt hk2
      have hpg7 := pgs_own own7 (by have := Hk.out; omega) hgl7
      have hpN := Hp.out
      rcases Hk.out with rfl | rfl
      · have hn200 : n ≤ 200 := by unfold pgN at hpN; split at hpN <;> omega
        have c0 := own_at own7 0 _ (by rfl)
        have c2 := own_at own7 2 _ (by rfl)
        change w7.cell? ⟨gl, 0, none⟩ = some (.int .i64 5) at c0
        change w7.cell? ⟨gl, 2, none⟩ = some (.int .i64 0) at c2
        have hget := get_no (z := n) (cap := cl) (short_no (by rw [pgI_nat, hpN]; simp)) (pgs_prefix hpg7 0 (by omega))
        have d5 : decide ((n : Int) ≤ 0) = false := by simp; omega
        have d6 : decide ((200 : Int) < (n : Int)) = false := by simp; omega
        have hcl := (own_cap own7).2
        clear own7 hpg7 hpN
        go_wp2_with fail
        go_loop [98] (fun i => ∃ j : Nat, i = .int .i64 j ∧ j ≤ 1) (fun i => 1 - (intOf i).toNat)
        case atStart => exact ⟨0, rfl, by omega⟩
        case round =>
          obtain ⟨j, rfl, hj⟩ := hrel
          rcases (show j = 0 ∨ j = 1 from by omega) with rfl | rfl
          · clear hget
            go_wp2
            go_round
            case rel => exact ⟨1, by rfl, by omega⟩
            case measure => simp [intOf]
          · go_wp2_with fail
            with_reducible refine hget.mono ?_
            rintro e w8 ⟨rfl, hb8⟩
            go_wp2
            go_ret
            exact ⟨rfl, below_base hbw7 hbw7.size hb8⟩
      · have hn200 : 200 < n := by unfold pgN at hpN; split at hpN <;> omega
        have c0 := own_at own7 0 _ (by rfl)
        have c2 := own_at own7 2 _ (by rfl)
        have c4 := own_at own7 4 _ (by rfl)
        have c6' := own_at own7 6 _ (by rfl)
        change w7.cell? ⟨gl, 0, none⟩ = some (.int .i64 5) at c0
        change w7.cell? ⟨gl, 2, none⟩ = some (.int .i64 11) at c2
        change w7.cell? ⟨gl, 4, none⟩ = some (.int .i64 5) at c4
        change w7.cell? ⟨gl, 6, none⟩ = some (.int .i64 0) at c6'
        have hget := get_no (z := n) (cap := cl) (short_no (by rw [pgI_nat, hpN]; simp [putPg])) (pgs_prefix hpg7 1 (by omega))
        have d5 : decide ((n : Int) ≤ 200) = false := by simp; omega
        have d6 : decide ((400 : Int) < (n : Int)) = false := by simp; omega
        have hcl := (own_cap own7).2
        clear own7 hpg7 hpN
        go_wp2_with fail
        go_loop [98] (fun i => ∃ j : Nat, i = .int .i64 j ∧ j ≤ 2) (fun i => 2 - (intOf i).toNat)
        case atStart => exact ⟨0, rfl, by omega⟩
        case round =>
          obtain ⟨j, rfl, hj⟩ := hrel
          rcases (show j = 0 ∨ j = 1 ∨ j = 2 from by omega) with rfl | rfl | rfl
          · clear hget
            go_wp2
            go_round
            case rel => exact ⟨1, by rfl, by omega⟩
            case measure => simp [intOf]
          · clear hget
            go_wp2
            go_round
            case rel => exact ⟨2, by rfl, by omega⟩
            case measure => simp [intOf]
          · go_wp2_with fail
            with_reducible refine hget.mono ?_
            rintro e w8 ⟨rfl, hb8⟩
            go_wp2
            go_ret
            exact ⟨rfl, below_base hbw7 hbw7.size hb8⟩

set_option maxRecDepth 100000 in
set_option maxHeartbeats 2000000 in
theorem sizes_out (n : Nat) (w : World) (h : n ≤ 40 ∨ 400 < n) (h6 : n ≤ 600) :
    Calls Tryd.prog 3 #[.int .i64 n] w fun e w' => e = .returned (.bool true) ∧ Below w.heap.size w w' := by
  have hzr := fun w => refZeros_any n w (by omega)
  have hpg := fun w => blobPages_any n w (by omega)
  have hp : pgN n = 0 := by unfold pgN; rw [if_pos h]
  rw [hp] at hpg
  have hl : (zs n).length = n := by rw [zs, List.length_replicate]
  have hput := fun w => put_nil (zs n) (by omega) w
  have d0 : decide ((n : Int) < 0) = false := by simp
  have d1 : decide ((600 : Int) < (n : Int)) = false := by simp; omega
  obtain ⟨Z, hZ⟩ : ∃ Z, Z = str (zs n) := ⟨_, rfl⟩
  simp only [← hZ] at hzr hput
  clear hl hp hZ
  rcases (show n ≤ 40 ∨ ¬ n ≤ 40 ∧ 400 < n from by omega) with h | ⟨h1, h⟩
  · have d2 : decide ((n : Int) ≤ 40) = true := by simp; omega
    go_enter Tryd.func3, Tryd.ntmps3
    go_wp2_with (go_at_call 6; refine (alive_any _).mono ?_; rintro e w1 ⟨rfl, hb1⟩)
    with_reducible refine (hpg _).mono ?_
    rintro e w2 ⟨rfl, rfl⟩
    go_wp2_with fail
    with_reducible refine (hzr _).mono ?_
    rintro e w3 ⟨rfl, hb3⟩
    go_wp2_with fail
    with_reducible refine (hput _).mono ?_
    rintro e w4 ⟨v, rfl, hb4⟩
    go_wp2
    go_ret
    exact ⟨rfl, below_tr hb1 (below_tr hb3 hb4)⟩
  · have d2 : decide ((n : Int) ≤ 40) = false := by simp; omega
    have d3 : decide ((400 : Int) < (n : Int)) = true := by simp; omega
    go_enter Tryd.func3, Tryd.ntmps3
    go_wp2_with (go_at_call 6; refine (alive_any _).mono ?_; rintro e w1 ⟨rfl, hb1⟩)
    with_reducible refine (hpg _).mono ?_
    rintro e w2 ⟨rfl, rfl⟩
    go_wp2_with fail
    with_reducible refine (hzr _).mono ?_
    rintro e w3 ⟨rfl, hb3⟩
    go_wp2_with fail
    with_reducible refine (hput _).mono ?_
    rintro e w4 ⟨v, rfl, hb4⟩
    go_wp2
    go_ret
    exact ⟨rfl, below_tr hb1 (below_tr hb3 hb4)⟩

theorem sizes_far (n : Int) (w : World) (h : n < 0 ∨ 600 < n) :
    Calls Tryd.prog 3 #[.int .i64 n] w fun e w' => e = .returned (.bool true) ∧ Below w.heap.size w w' := by
  rcases (show n < 0 ∨ ¬ n < 0 ∧ 600 < n from by omega) with h | ⟨h1, h⟩
  all_goals
    go_enter Tryd.func3, Tryd.ntmps3
    go_wp2_with (go_at_call 6; refine (alive_any _).mono ?_; rintro e w1 ⟨rfl, hb1⟩)
    go_ret
    exact ⟨rfl, hb1⟩
theorem sizes_any (n : Int) (w : World) :
    Calls Tryd.prog 3 #[.int .i64 n] w fun e w' => e = .returned (.bool true) ∧ Below w.heap.size w w' := by
  by_cases h : 0 ≤ n ∧ n ≤ 600
  · obtain ⟨N, rfl⟩ := Int.eq_ofNat_of_zero_le h.1
    by_cases h2 : 40 < N ∧ N ≤ 400
    · have hp : pgN N = 1 ∨ pgN N = 2 := by unfold pgN; rw [if_neg (by omega)]; omega
      exact sizes_mid N _ w hp rfl h2.1 h2.2
    · exact sizes_out N w (by omega) (by omega)
  · exact sizes_far n w (by omega)
end Go.Proofs.YtghbgajapdkofaaDoor.Bl
