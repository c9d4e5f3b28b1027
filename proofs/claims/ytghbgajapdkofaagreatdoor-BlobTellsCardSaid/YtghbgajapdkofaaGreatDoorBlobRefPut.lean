/- The contract of the reference's BlobPut. -/
import Derived.Test.YtghbgajapdkofaaGreatDoorBlobPut
import Derived.Test.YtghbgajapdkofaaGreatDoorBlobRefPages
import Derived.Test.YtghbgajapdkofaaGreatDoorZeros
import Derived.Deep.RegionHeld
namespace Go.Proofs.YtghbgajapdkofaaGreatDoor.Bl
open Go.RowKit Go.Proofs.YtghbgajapdkofaaGreatDoor.Mem Go.Proofs.YtghbgajapdkofaaGreatDoor.Pg

/-- A page's part as the reference cuts it out. -/
theorem part_code (l : List UInt8) (a b j : Nat) (ha : a = 200 * j) (hb : b = min (200 * (j + 1)) l.length) : (str l).extract a b = str (part l j) := by
  subst ha hb
  apply ByteArray.ext
  apply Array.toList_inj.1
  simp only [ByteArray.data_extract, Array.toList_extract, List.extract, part]
  rw [List.take_eq_take_iff]
  simp
  omega
theorem refZerosI_any (z : Int) (n : Nat) (w : World) (h : z = n) (hn : n ≤ 1000) :
    Calls Tryz.prog 18 #[.int .i64 z] w fun e w' => e = .returned (.string (str (zs n))) ∧ Below w.heap.size w w' := by
  subst h
  exact refZeros_any n w hn

theorem ok_at {at' : List Int} {j : Nat} (hn : at'.length ≤ 2) (hj : j < at'.length) (h1 : 2 ≤ at'.getD j 0) (h2 : at'.getD j 0 < 64) (h3 : ¬ (0 < j ∧ at'.getD 0 0 = at'.getD 1 0)) : OkAt at' j := by
  refine ⟨h1, h2, ?_⟩
  rcases (show j = 0 ∨ j = 1 by omega) with rfl | rfl
  · rfl
  · match at', hn, hj, h3 with
    | [a, b], _, _, h3 =>
      have : ¬ a = b := fun e => h3 ⟨by omega, by simpa using e⟩
      simp
      exact fun e => this e.symm

set_option maxRecDepth 100000 in
set_option maxHeartbeats 4000000 in
theorem refPut_any (l : List UInt8) (A : Option Addr) (n cap : Nat) (at' : List Int) (w : World) (hl : l.length ≤ 1000)
    (hz : Ints w A n at') : Calls Tryz.prog 7 #[.string (str l), .slice A n cap] w (PutPost w l at') := by
  have hpg := fun w => refPages_any l.length w (by omega)
  have hss := str_size l
  have hn : at'.length = n := hz.1
  obtain ⟨i0, hi, hz0, hz1, hz2⟩ := info_parts info_page
  obtain ⟨S, hS⟩ : ∃ S, S = str l := ⟨_, rfl⟩
  rw [← hS] at hss ⊢
  have HS := Lib.hid hS
  have Hn := Lib.hid hn
  have Hz := Lib.hid hz
  obtain ⟨P, hP⟩ : ∃ P, P = pgN l.length := ⟨_, rfl⟩
  rw [← hP] at hpg
  have hP2 : P ≤ 2 := by rw [hP]; exact pgN_le _
  have HP := Lib.hid hP
  have Hpg := Lib.hid hpg
  clear hS hn hz hP hpg
  by_cases h0 : P = 0
  · have Hno : Hid (¬ PutOk l at') := Lib.hid fun h => by have := h.1; have := h.2.1; have := HP.out; omega
    subst h0
    go_enter Tryz.func7, Tryz.ntmps7
    go_wp2_with fail
    refine (Hpg.out _).mono ?_
    rintro e w1 ⟨rfl, rfl⟩
    go_wp2_with fail
    go_ret2
    exact .inr ⟨Hno.out, rfl, Below.refl _ _⟩
  · have d0 : ((P : Int) == 0) = false := by simp; omega
    by_cases h1 : P = n
    · subst h1
      have H0 := Lib.hid h0
      obtain ⟨b, off, rfl, hbl, hcell⟩ := Hz.out.2.2 (by omega)
      have Hcell := Lib.hid hcell
      clear h0 hcell
      go_enter Tryz.func7, Tryz.ntmps7
      go_wp2_with fail
      refine (Hpg.out _).mono ?_
      rintro e w1 ⟨rfl, rfl⟩
      go_wp2_with fail
      refine (Hpg.out _).mono ?_
      rintro e w2 ⟨rfl, rfl⟩
      go_wp2_with fail
      go_loopw [6, 7] (fun o i wr => ∃ j : Nat, i = .int .i64 j ∧ j ≤ P ∧ wr.ownsRow w2.heap.size 26 4 o j (rows l at' j) ∧ Below w2.heap.size w2 wr ∧ Hid (∀ i, i < j → OkAt at' i)) (fun _ i _ => P - (intOf i).toNat)
      case atStart => exact ⟨0, rfl, Nat.zero_le _, World.ownsRow_nil _ _ _ _, Below.refl _ _, Lib.hid (fun i hi => absurd hi (by omega))⟩
      case round =>
        obtain ⟨j, rfl, hj, hown, hbel, hoks⟩ := hrel
        by_cases hlt : j < P
        · have hx := (hbel.cell (p := ⟨b, off + j, none⟩) hbl).trans (Hcell.out j hlt)
          have hxa := (hbel.cell (p := ⟨b, off + 0, none⟩) hbl).trans (Hcell.out 0 (by omega))
          rw [Nat.add_zero] at hxa
          obtain ⟨g, hg⟩ : ∃ g, g = at'.getD j 0 := ⟨_, rfl⟩
          obtain ⟨g0, hg0⟩ : ∃ g0, g0 = at'.getD 0 0 := ⟨_, rfl⟩
          rw [← hg] at hx
          rw [← hg0] at hxa
          have Hg := Lib.hid hg
          have Hg0 := Lib.hid hg0
          clear hg hg0
          have hbad : ∀ (_ : ¬ OkAt at' j), PutPost w2 l at' (.returned (.tuple #[.slice none 0 0, .bool false])) wr.drew := fun h => .inr ⟨fun h2 => h (h2.2.2 j (by have := Hn.out; omega)), rfl, below_dr hbel⟩
          have Hbad := Lib.hid hbad
          clear hbad
          by_cases h2 : g < 2
          · have Hno : Hid (¬ OkAt at' j) := Lib.hid fun h => by have := h.1; rw [← Hg.out] at this; omega
            go_wp2_with fail
            refine wp_region_held_drew (S := (fun W' => W'.cell? ⟨b, off + j, none⟩ = some (.int .i64 g) ∧ W'.cell? ⟨b, off, none⟩ = some (.int .i64 g0) ∧ b < W'.heap.size)) (by kernel_rfl) (⟨hx, hxa, Nat.lt_of_lt_of_le hbl hbel.size⟩) (fun hHeld => ?_)
            refine wpAnyH_take (i := 0) (v := ?_) rfl (by kernel_rfl) (by kernel_rfl) (by kernel_rfl) (fun _ _ _ h => h) (Or.inl ⟨by kernel_rfl, ?_⟩) hHeld ?_
            rotate_left
            · intro wq hSw
              obtain ⟨s1, s2, s3⟩ := hSw
              go_simp
              try rw [if_neg (by omega)]
              try rw [if_pos (by omega)]
              try with_reducible rfl
            try simp only [Act.put, List.getElem_toArray, List.getElem_cons_succ, List.getElem_cons_zero, List.setIfInBounds_toArray, List.set_cons_zero, List.set_cons_succ]
            refine wpAnyH_take (i := 1) (v := ?_) rfl (by kernel_rfl) (by kernel_rfl) (by kernel_rfl) (fun _ _ _ h => h) (Or.inl ⟨by kernel_rfl, ?_⟩) hHeld ?_
            rotate_left
            · intro wq hSw
              obtain ⟨s1, s2, s3⟩ := hSw
              go_simp
              try rw [if_neg (by omega)]
              try rw [if_pos (by omega)]
              try with_reducible rfl
            try simp only [Act.put, List.getElem_toArray, List.getElem_cons_succ, List.getElem_cons_zero, List.setIfInBounds_toArray, List.set_cons_zero, List.set_cons_succ]
            refine wpAnyH_take (i := 2) (v := ?_) rfl (by kernel_rfl) (by kernel_rfl) (by kernel_rfl) (fun _ _ _ h => h) (Or.inl ⟨by kernel_rfl, ?_⟩) hHeld ?_
            rotate_left
            · intro wq hSw
              obtain ⟨s1, s2, s3⟩ := hSw
              go_simp
              try rw [if_neg (by omega)]
              try rw [if_pos (by omega)]
              try with_reducible rfl
            try simp only [Act.put, List.getElem_toArray, List.getElem_cons_succ, List.getElem_cons_zero, List.setIfInBounds_toArray, List.set_cons_zero, List.set_cons_succ]
            refine wpAnyH_take (i := 3) (v := ?_) rfl (by kernel_rfl) (by kernel_rfl) (by kernel_rfl) (fun _ _ _ h => h) (Or.inl ⟨by kernel_rfl, ?_⟩) hHeld ?_
            rotate_left
            · intro wq hSw
              obtain ⟨s1, s2, s3⟩ := hSw
              go_simp
              try rw [if_neg (by omega)]
              try rw [if_pos (by omega)]
              try with_reducible rfl
            try simp only [Act.put, List.getElem_toArray, List.getElem_cons_succ, List.getElem_cons_zero, List.setIfInBounds_toArray, List.set_cons_zero, List.set_cons_succ]
            refine wpAnyH_take (i := 4) (v := ?_) rfl (by kernel_rfl) (by kernel_rfl) (by kernel_rfl) (fun _ _ _ h => h) (Or.inl ⟨by kernel_rfl, ?_⟩) hHeld ?_
            rotate_left
            · intro wq hSw
              obtain ⟨s1, s2, s3⟩ := hSw
              go_simp
              try rw [if_neg (by omega)]
              try rw [if_pos (by omega)]
              try with_reducible rfl
            try simp only [Act.put, List.getElem_toArray, List.getElem_cons_succ, List.getElem_cons_zero, List.setIfInBounds_toArray, List.set_cons_zero, List.set_cons_succ]
            refine wpAnyH_take (i := 5) (v := ?_) rfl (by kernel_rfl) (by kernel_rfl) (by kernel_rfl) (fun _ _ _ h => h) (Or.inl ⟨by kernel_rfl, ?_⟩) hHeld ?_
            rotate_left
            · intro wq hSw
              obtain ⟨s1, s2, s3⟩ := hSw
              go_simp
              try rw [if_neg (by omega)]
              try rw [if_pos (by omega)]
              try with_reducible rfl
            try simp only [Act.put, List.getElem_toArray, List.getElem_cons_succ, List.getElem_cons_zero, List.setIfInBounds_toArray, List.set_cons_zero, List.set_cons_succ]
            refine wpAnyH_take (i := 6) (v := undef) rfl (by kernel_rfl) (by kernel_rfl) (by kernel_rfl) (fun _ _ _ h => h) (Or.inr ⟨by kernel_rfl, rfl⟩) hHeld ?_
            try simp only [Act.put, List.getElem_toArray, List.getElem_cons_succ, List.getElem_cons_zero, List.setIfInBounds_toArray, List.set_cons_zero, List.set_cons_succ]
            refine wpAnyH_take (i := 7) (v := undef) rfl (by kernel_rfl) (by kernel_rfl) (by kernel_rfl) (fun _ _ _ h => h) (Or.inr ⟨by kernel_rfl, rfl⟩) hHeld ?_
            try simp only [Act.put, List.getElem_toArray, List.getElem_cons_succ, List.getElem_cons_zero, List.setIfInBounds_toArray, List.set_cons_zero, List.set_cons_succ]
            refine wpAnyH_take (i := 8) (v := undef) rfl (by kernel_rfl) (by kernel_rfl) (by kernel_rfl) (fun _ _ _ h => h) (Or.inr ⟨by kernel_rfl, rfl⟩) hHeld ?_
            try simp only [Act.put, List.getElem_toArray, List.getElem_cons_succ, List.getElem_cons_zero, List.setIfInBounds_toArray, List.set_cons_zero, List.set_cons_succ]
            refine wpAnyH_take (i := 9) (v := undef) rfl (by kernel_rfl) (by kernel_rfl) (by kernel_rfl) (fun _ _ _ h => h) (Or.inr ⟨by kernel_rfl, rfl⟩) hHeld ?_
            try simp only [Act.put, List.getElem_toArray, List.getElem_cons_succ, List.getElem_cons_zero, List.setIfInBounds_toArray, List.set_cons_zero, List.set_cons_succ]
            refine wpAnyH_take (i := 10) (v := undef) rfl (by kernel_rfl) (by kernel_rfl) (by kernel_rfl) (fun _ _ _ h => h) (Or.inr ⟨by kernel_rfl, rfl⟩) hHeld ?_
            try simp only [Act.put, List.getElem_toArray, List.getElem_cons_succ, List.getElem_cons_zero, List.setIfInBounds_toArray, List.set_cons_zero, List.set_cons_succ]
            refine wpAnyH_take (i := 11) (v := ?_) rfl (by kernel_rfl) (by kernel_rfl) (by kernel_rfl) (fun _ _ _ h => h) (Or.inl ⟨by kernel_rfl, ?_⟩) hHeld ?_
            rotate_left
            · intro wq hSw
              obtain ⟨s1, s2, s3⟩ := hSw
              go_simp
              try rw [if_neg (by omega)]
              try rw [if_pos (by omega)]
              try with_reducible rfl
            try simp only [Act.put, List.getElem_toArray, List.getElem_cons_succ, List.getElem_cons_zero, List.setIfInBounds_toArray, List.set_cons_zero, List.set_cons_succ]
            refine wpAnyH_take (i := 12) (v := ?_) rfl (by kernel_rfl) (by kernel_rfl) (by kernel_rfl) (fun _ _ _ h => h) (Or.inl ⟨by kernel_rfl, ?_⟩) hHeld ?_
            rotate_left
            · intro wq hSw
              obtain ⟨s1, s2, s3⟩ := hSw
              go_simp
              try rw [if_neg (by omega)]
              try rw [if_pos (by omega)]
              try with_reducible rfl
            try simp only [Act.put, List.getElem_toArray, List.getElem_cons_succ, List.getElem_cons_zero, List.setIfInBounds_toArray, List.set_cons_zero, List.set_cons_succ]
            refine wpAnyH_take (i := 13) (v := undef) rfl (by kernel_rfl) (by kernel_rfl) (by kernel_rfl) (fun _ _ _ h => h) (Or.inr ⟨by kernel_rfl, rfl⟩) hHeld ?_
            try simp only [Act.put, List.getElem_toArray, List.getElem_cons_succ, List.getElem_cons_zero, List.setIfInBounds_toArray, List.set_cons_zero, List.set_cons_succ]
            refine wpAnyH_take (i := 14) (v := undef) rfl (by kernel_rfl) (by kernel_rfl) (by kernel_rfl) (fun _ _ _ h => h) (Or.inr ⟨by kernel_rfl, rfl⟩) hHeld ?_
            try simp only [Act.put, List.getElem_toArray, List.getElem_cons_succ, List.getElem_cons_zero, List.setIfInBounds_toArray, List.set_cons_zero, List.set_cons_succ]
            refine wpAnyH_take (i := 15) (v := undef) rfl (by kernel_rfl) (by kernel_rfl) (by kernel_rfl) (fun _ _ _ h => h) (Or.inr ⟨by kernel_rfl, rfl⟩) hHeld ?_
            try simp only [Act.put, List.getElem_toArray, List.getElem_cons_succ, List.getElem_cons_zero, List.setIfInBounds_toArray, List.set_cons_zero, List.set_cons_succ]
            refine wpAnyH_take (i := 16) (v := undef) rfl (by kernel_rfl) (by kernel_rfl) (by kernel_rfl) (fun _ _ _ h => h) (Or.inr ⟨by kernel_rfl, rfl⟩) hHeld ?_
            try simp only [Act.put, List.getElem_toArray, List.getElem_cons_succ, List.getElem_cons_zero, List.setIfInBounds_toArray, List.set_cons_zero, List.set_cons_succ]
            refine wpAnyH_take (i := 17) (v := undef) rfl (by kernel_rfl) (by kernel_rfl) (by kernel_rfl) (fun _ _ _ h => h) (Or.inr ⟨by kernel_rfl, rfl⟩) hHeld ?_
            try simp only [Act.put, List.getElem_toArray, List.getElem_cons_succ, List.getElem_cons_zero, List.setIfInBounds_toArray, List.set_cons_zero, List.set_cons_succ]
            refine wpAnyH_take (i := 18) (v := undef) rfl (by kernel_rfl) (by kernel_rfl) (by kernel_rfl) (fun _ _ _ h => h) (Or.inr ⟨by kernel_rfl, rfl⟩) hHeld ?_
            try simp only [Act.put, List.getElem_toArray, List.getElem_cons_succ, List.getElem_cons_zero, List.setIfInBounds_toArray, List.set_cons_zero, List.set_cons_succ]
            refine wpAnyH_take (i := 19) (v := undef) rfl (by kernel_rfl) (by kernel_rfl) (by kernel_rfl) (fun _ _ _ h => h) (Or.inr ⟨by kernel_rfl, rfl⟩) hHeld ?_
            try simp only [Act.put, List.getElem_toArray, List.getElem_cons_succ, List.getElem_cons_zero, List.setIfInBounds_toArray, List.set_cons_zero, List.set_cons_succ]
            refine wpAnyH_take (i := 20) (v := undef) rfl (by kernel_rfl) (by kernel_rfl) (by kernel_rfl) (fun _ _ _ h => h) (Or.inr ⟨by kernel_rfl, rfl⟩) hHeld ?_
            try simp only [Act.put, List.getElem_toArray, List.getElem_cons_succ, List.getElem_cons_zero, List.setIfInBounds_toArray, List.set_cons_zero, List.set_cons_succ]
            refine wpAnyH_take (i := 21) (v := undef) rfl (by kernel_rfl) (by kernel_rfl) (by kernel_rfl) (fun _ _ _ h => h) (Or.inr ⟨by kernel_rfl, rfl⟩) hHeld ?_
            try simp only [Act.put, List.getElem_toArray, List.getElem_cons_succ, List.getElem_cons_zero, List.setIfInBounds_toArray, List.set_cons_zero, List.set_cons_succ]
            refine wpAnyH_take (i := 22) (v := undef) rfl (by kernel_rfl) (by kernel_rfl) (by kernel_rfl) (fun _ _ _ h => h) (Or.inr ⟨by kernel_rfl, rfl⟩) hHeld ?_
            try simp only [Act.put, List.getElem_toArray, List.getElem_cons_succ, List.getElem_cons_zero, List.setIfInBounds_toArray, List.set_cons_zero, List.set_cons_succ]
            refine wpAnyH_take (i := 23) (v := undef) rfl (by kernel_rfl) (by kernel_rfl) (by kernel_rfl) (fun _ _ _ h => h) (Or.inr ⟨by kernel_rfl, rfl⟩) hHeld ?_
            try simp only [Act.put, List.getElem_toArray, List.getElem_cons_succ, List.getElem_cons_zero, List.setIfInBounds_toArray, List.set_cons_zero, List.set_cons_succ]
            refine wpAnyH_take (i := 24) (v := ?_) rfl (by kernel_rfl) (by kernel_rfl) (by kernel_rfl) (fun _ _ _ h => h) (Or.inl ⟨by kernel_rfl, ?_⟩) hHeld ?_
            rotate_left
            · intro wq hSw
              obtain ⟨s1, s2, s3⟩ := hSw
              go_simp
              try rw [if_neg (by omega)]
              try rw [if_pos (by omega)]
              try with_reducible rfl
            try simp only [Act.put, List.getElem_toArray, List.getElem_cons_succ, List.getElem_cons_zero, List.setIfInBounds_toArray, List.set_cons_zero, List.set_cons_succ]
            refine wpAnyH_done (by kernel_rfl) ?_ _
            go_wp2
            go_ret2
            exact Hbad.out Hno.out
          · have e2 : decide (g < 2) = false := by simpa using h2
            by_cases h3 : 64 ≤ g
            · have e3 : decide (64 ≤ g) = true := by simpa using h3
              have Hno : Hid (¬ OkAt at' j) := Lib.hid fun h => by have := h.2.1; rw [← Hg.out] at this; omega
              go_wp2_with fail
              refine wp_region_held_drew (S := (fun W' => W'.cell? ⟨b, off + j, none⟩ = some (.int .i64 g) ∧ W'.cell? ⟨b, off, none⟩ = some (.int .i64 g0) ∧ b < W'.heap.size)) (by kernel_rfl) (⟨hx, hxa, Nat.lt_of_lt_of_le hbl hbel.size⟩) (fun hHeld => ?_)
              refine wpAnyH_take (i := 0) (v := ?_) rfl (by kernel_rfl) (by kernel_rfl) (by kernel_rfl) (fun _ _ _ h => h) (Or.inl ⟨by kernel_rfl, ?_⟩) hHeld ?_
              rotate_left
              · intro wq hSw
                obtain ⟨s1, s2, s3⟩ := hSw
                go_simp
                try rw [if_neg (by omega)]
                try rw [if_pos (by omega)]
                try with_reducible rfl
              try simp only [Act.put, List.getElem_toArray, List.getElem_cons_succ, List.getElem_cons_zero, List.setIfInBounds_toArray, List.set_cons_zero, List.set_cons_succ]
              refine wpAnyH_take (i := 1) (v := ?_) rfl (by kernel_rfl) (by kernel_rfl) (by kernel_rfl) (fun _ _ _ h => h) (Or.inl ⟨by kernel_rfl, ?_⟩) hHeld ?_
              rotate_left
              · intro wq hSw
                obtain ⟨s1, s2, s3⟩ := hSw
                go_simp
                try rw [if_neg (by omega)]
                try rw [if_pos (by omega)]
                try with_reducible rfl
              try simp only [Act.put, List.getElem_toArray, List.getElem_cons_succ, List.getElem_cons_zero, List.setIfInBounds_toArray, List.set_cons_zero, List.set_cons_succ]
              refine wpAnyH_take (i := 2) (v := ?_) rfl (by kernel_rfl) (by kernel_rfl) (by kernel_rfl) (fun _ _ _ h => h) (Or.inl ⟨by kernel_rfl, ?_⟩) hHeld ?_
              rotate_left
              · intro wq hSw
                obtain ⟨s1, s2, s3⟩ := hSw
                go_simp
                try rw [if_neg (by omega)]
                try rw [if_pos (by omega)]
                try with_reducible rfl
              try simp only [Act.put, List.getElem_toArray, List.getElem_cons_succ, List.getElem_cons_zero, List.setIfInBounds_toArray, List.set_cons_zero, List.set_cons_succ]
              refine wpAnyH_take (i := 3) (v := ?_) rfl (by kernel_rfl) (by kernel_rfl) (by kernel_rfl) (fun _ _ _ h => h) (Or.inl ⟨by kernel_rfl, ?_⟩) hHeld ?_
              rotate_left
              · intro wq hSw
                obtain ⟨s1, s2, s3⟩ := hSw
                go_simp
                try rw [if_neg (by omega)]
                try rw [if_pos (by omega)]
                try with_reducible rfl
              try simp only [Act.put, List.getElem_toArray, List.getElem_cons_succ, List.getElem_cons_zero, List.setIfInBounds_toArray, List.set_cons_zero, List.set_cons_succ]
              refine wpAnyH_take (i := 4) (v := ?_) rfl (by kernel_rfl) (by kernel_rfl) (by kernel_rfl) (fun _ _ _ h => h) (Or.inl ⟨by kernel_rfl, ?_⟩) hHeld ?_
              rotate_left
              · intro wq hSw
                obtain ⟨s1, s2, s3⟩ := hSw
                go_simp
                try rw [if_neg (by omega)]
                try rw [if_pos (by omega)]
                try with_reducible rfl
              try simp only [Act.put, List.getElem_toArray, List.getElem_cons_succ, List.getElem_cons_zero, List.setIfInBounds_toArray, List.set_cons_zero, List.set_cons_succ]
              refine wpAnyH_take (i := 5) (v := ?_) rfl (by kernel_rfl) (by kernel_rfl) (by kernel_rfl) (fun _ _ _ h => h) (Or.inl ⟨by kernel_rfl, ?_⟩) hHeld ?_
              rotate_left
              · intro wq hSw
                obtain ⟨s1, s2, s3⟩ := hSw
                go_simp
                try rw [if_neg (by omega)]
                try rw [if_pos (by omega)]
                try with_reducible rfl
              try simp only [Act.put, List.getElem_toArray, List.getElem_cons_succ, List.getElem_cons_zero, List.setIfInBounds_toArray, List.set_cons_zero, List.set_cons_succ]
              refine wpAnyH_take (i := 6) (v := ?_) rfl (by kernel_rfl) (by kernel_rfl) (by kernel_rfl) (fun _ _ _ h => h) (Or.inl ⟨by kernel_rfl, ?_⟩) hHeld ?_
              rotate_left
              · intro wq hSw
                obtain ⟨s1, s2, s3⟩ := hSw
                go_simp
                try rw [if_neg (by omega)]
                try rw [if_pos (by omega)]
                try with_reducible rfl
              try simp only [Act.put, List.getElem_toArray, List.getElem_cons_succ, List.getElem_cons_zero, List.setIfInBounds_toArray, List.set_cons_zero, List.set_cons_succ]
              refine wpAnyH_take (i := 7) (v := ?_) rfl (by kernel_rfl) (by kernel_rfl) (by kernel_rfl) (fun _ _ _ h => h) (Or.inl ⟨by kernel_rfl, ?_⟩) hHeld ?_
              rotate_left
              · intro wq hSw
                obtain ⟨s1, s2, s3⟩ := hSw
                go_simp
                try rw [if_neg (by omega)]
                try rw [if_pos (by omega)]
                try with_reducible rfl
              try simp only [Act.put, List.getElem_toArray, List.getElem_cons_succ, List.getElem_cons_zero, List.setIfInBounds_toArray, List.set_cons_zero, List.set_cons_succ]
              refine wpAnyH_take (i := 8) (v := ?_) rfl (by kernel_rfl) (by kernel_rfl) (by kernel_rfl) (fun _ _ _ h => h) (Or.inl ⟨by kernel_rfl, ?_⟩) hHeld ?_
              rotate_left
              · intro wq hSw
                obtain ⟨s1, s2, s3⟩ := hSw
                go_simp
                try rw [if_neg (by omega)]
                try rw [if_pos (by omega)]
                try with_reducible rfl
              try simp only [Act.put, List.getElem_toArray, List.getElem_cons_succ, List.getElem_cons_zero, List.setIfInBounds_toArray, List.set_cons_zero, List.set_cons_succ]
              refine wpAnyH_take (i := 9) (v := ?_) rfl (by kernel_rfl) (by kernel_rfl) (by kernel_rfl) (fun _ _ _ h => h) (Or.inl ⟨by kernel_rfl, ?_⟩) hHeld ?_
              rotate_left
              · intro wq hSw
                obtain ⟨s1, s2, s3⟩ := hSw
                go_simp
                try rw [if_neg (by omega)]
                try rw [if_pos (by omega)]
                try with_reducible rfl
              try simp only [Act.put, List.getElem_toArray, List.getElem_cons_succ, List.getElem_cons_zero, List.setIfInBounds_toArray, List.set_cons_zero, List.set_cons_succ]
              refine wpAnyH_take (i := 10) (v := ?_) rfl (by kernel_rfl) (by kernel_rfl) (by kernel_rfl) (fun _ _ _ h => h) (Or.inl ⟨by kernel_rfl, ?_⟩) hHeld ?_
              rotate_left
              · intro wq hSw
                obtain ⟨s1, s2, s3⟩ := hSw
                go_simp
                try rw [if_neg (by omega)]
                try rw [if_pos (by omega)]
                try with_reducible rfl
              try simp only [Act.put, List.getElem_toArray, List.getElem_cons_succ, List.getElem_cons_zero, List.setIfInBounds_toArray, List.set_cons_zero, List.set_cons_succ]
              refine wpAnyH_take (i := 11) (v := ?_) rfl (by kernel_rfl) (by kernel_rfl) (by kernel_rfl) (fun _ _ _ h => h) (Or.inl ⟨by kernel_rfl, ?_⟩) hHeld ?_
              rotate_left
              · intro wq hSw
                obtain ⟨s1, s2, s3⟩ := hSw
                go_simp
                try rw [if_neg (by omega)]
                try rw [if_pos (by omega)]
                try with_reducible rfl
              try simp only [Act.put, List.getElem_toArray, List.getElem_cons_succ, List.getElem_cons_zero, List.setIfInBounds_toArray, List.set_cons_zero, List.set_cons_succ]
              refine wpAnyH_take (i := 12) (v := ?_) rfl (by kernel_rfl) (by kernel_rfl) (by kernel_rfl) (fun _ _ _ h => h) (Or.inl ⟨by kernel_rfl, ?_⟩) hHeld ?_
              rotate_left
              · intro wq hSw
                obtain ⟨s1, s2, s3⟩ := hSw
                go_simp
                try rw [if_neg (by omega)]
                try rw [if_pos (by omega)]
                try with_reducible rfl
              try simp only [Act.put, List.getElem_toArray, List.getElem_cons_succ, List.getElem_cons_zero, List.setIfInBounds_toArray, List.set_cons_zero, List.set_cons_succ]
              refine wpAnyH_take (i := 13) (v := undef) rfl (by kernel_rfl) (by kernel_rfl) (by kernel_rfl) (fun _ _ _ h => h) (Or.inr ⟨by kernel_rfl, rfl⟩) hHeld ?_
              try simp only [Act.put, List.getElem_toArray, List.getElem_cons_succ, List.getElem_cons_zero, List.setIfInBounds_toArray, List.set_cons_zero, List.set_cons_succ]
              refine wpAnyH_take (i := 14) (v := undef) rfl (by kernel_rfl) (by kernel_rfl) (by kernel_rfl) (fun _ _ _ h => h) (Or.inr ⟨by kernel_rfl, rfl⟩) hHeld ?_
              try simp only [Act.put, List.getElem_toArray, List.getElem_cons_succ, List.getElem_cons_zero, List.setIfInBounds_toArray, List.set_cons_zero, List.set_cons_succ]
              refine wpAnyH_take (i := 15) (v := undef) rfl (by kernel_rfl) (by kernel_rfl) (by kernel_rfl) (fun _ _ _ h => h) (Or.inr ⟨by kernel_rfl, rfl⟩) hHeld ?_
              try simp only [Act.put, List.getElem_toArray, List.getElem_cons_succ, List.getElem_cons_zero, List.setIfInBounds_toArray, List.set_cons_zero, List.set_cons_succ]
              refine wpAnyH_take (i := 16) (v := undef) rfl (by kernel_rfl) (by kernel_rfl) (by kernel_rfl) (fun _ _ _ h => h) (Or.inr ⟨by kernel_rfl, rfl⟩) hHeld ?_
              try simp only [Act.put, List.getElem_toArray, List.getElem_cons_succ, List.getElem_cons_zero, List.setIfInBounds_toArray, List.set_cons_zero, List.set_cons_succ]
              refine wpAnyH_take (i := 17) (v := undef) rfl (by kernel_rfl) (by kernel_rfl) (by kernel_rfl) (fun _ _ _ h => h) (Or.inr ⟨by kernel_rfl, rfl⟩) hHeld ?_
              try simp only [Act.put, List.getElem_toArray, List.getElem_cons_succ, List.getElem_cons_zero, List.setIfInBounds_toArray, List.set_cons_zero, List.set_cons_succ]
              refine wpAnyH_take (i := 18) (v := undef) rfl (by kernel_rfl) (by kernel_rfl) (by kernel_rfl) (fun _ _ _ h => h) (Or.inr ⟨by kernel_rfl, rfl⟩) hHeld ?_
              try simp only [Act.put, List.getElem_toArray, List.getElem_cons_succ, List.getElem_cons_zero, List.setIfInBounds_toArray, List.set_cons_zero, List.set_cons_succ]
              refine wpAnyH_take (i := 19) (v := undef) rfl (by kernel_rfl) (by kernel_rfl) (by kernel_rfl) (fun _ _ _ h => h) (Or.inr ⟨by kernel_rfl, rfl⟩) hHeld ?_
              try simp only [Act.put, List.getElem_toArray, List.getElem_cons_succ, List.getElem_cons_zero, List.setIfInBounds_toArray, List.set_cons_zero, List.set_cons_succ]
              refine wpAnyH_take (i := 20) (v := undef) rfl (by kernel_rfl) (by kernel_rfl) (by kernel_rfl) (fun _ _ _ h => h) (Or.inr ⟨by kernel_rfl, rfl⟩) hHeld ?_
              try simp only [Act.put, List.getElem_toArray, List.getElem_cons_succ, List.getElem_cons_zero, List.setIfInBounds_toArray, List.set_cons_zero, List.set_cons_succ]
              refine wpAnyH_take (i := 21) (v := undef) rfl (by kernel_rfl) (by kernel_rfl) (by kernel_rfl) (fun _ _ _ h => h) (Or.inr ⟨by kernel_rfl, rfl⟩) hHeld ?_
              try simp only [Act.put, List.getElem_toArray, List.getElem_cons_succ, List.getElem_cons_zero, List.setIfInBounds_toArray, List.set_cons_zero, List.set_cons_succ]
              refine wpAnyH_take (i := 22) (v := undef) rfl (by kernel_rfl) (by kernel_rfl) (by kernel_rfl) (fun _ _ _ h => h) (Or.inr ⟨by kernel_rfl, rfl⟩) hHeld ?_
              try simp only [Act.put, List.getElem_toArray, List.getElem_cons_succ, List.getElem_cons_zero, List.setIfInBounds_toArray, List.set_cons_zero, List.set_cons_succ]
              refine wpAnyH_take (i := 23) (v := undef) rfl (by kernel_rfl) (by kernel_rfl) (by kernel_rfl) (fun _ _ _ h => h) (Or.inr ⟨by kernel_rfl, rfl⟩) hHeld ?_
              try simp only [Act.put, List.getElem_toArray, List.getElem_cons_succ, List.getElem_cons_zero, List.setIfInBounds_toArray, List.set_cons_zero, List.set_cons_succ]
              refine wpAnyH_take (i := 24) (v := ?_) rfl (by kernel_rfl) (by kernel_rfl) (by kernel_rfl) (fun _ _ _ h => h) (Or.inl ⟨by kernel_rfl, ?_⟩) hHeld ?_
              rotate_left
              · intro wq hSw
                obtain ⟨s1, s2, s3⟩ := hSw
                go_simp
                try rw [if_neg (by omega)]
                try rw [if_pos (by omega)]
                try with_reducible rfl
              try simp only [Act.put, List.getElem_toArray, List.getElem_cons_succ, List.getElem_cons_zero, List.setIfInBounds_toArray, List.set_cons_zero, List.set_cons_succ]
              refine wpAnyH_done (by kernel_rfl) ?_ _
              go_wp2
              go_ret2
              exact Hbad.out Hno.out
            · have e3 : decide (64 ≤ g) = false := by simpa using h3
              by_cases h4 : 0 < j ∧ at'.getD 0 0 = at'.getD 1 0
              · obtain rfl : j = 1 := by omega
                have Hno : Hid (¬ OkAt at' 1) := Lib.hid fun h => by
                  have h5 := h.2.2
                  rw [← h4.2] at h5
                  rw [List.take_one] at h5
                  cases at' with
                  | nil => have := Hn.out; simp at this; omega
                  | cons y ys => simp at h5
                obtain rfl : g0 = g := by rw [Hg.out, Hg0.out]; exact h4.2
                clear h4
                have hx1 := (hbel.cell (p := ⟨b, off + 1, none⟩) hbl).trans (Hcell.out 1 (by omega))
                go_wp2_with fail
                refine wp_region_held_drew (S := (fun W' => W'.cell? ⟨b, off + 1, none⟩ = some (.int .i64 g0) ∧ W'.cell? ⟨b, off, none⟩ = some (.int .i64 g0) ∧ b < W'.heap.size)) (by kernel_rfl) (⟨hx, hxa, Nat.lt_of_lt_of_le hbl hbel.size⟩) (fun hHeld => ?_)
                refine wpAnyH_take (i := 0) (v := ?_) rfl (by kernel_rfl) (by kernel_rfl) (by kernel_rfl) (fun _ _ _ h => h) (Or.inl ⟨by kernel_rfl, ?_⟩) hHeld ?_
                rotate_left
                · intro wq hSw
                  obtain ⟨s1, s2, s3⟩ := hSw
                  go_simp
                  try rw [if_neg (by omega)]
                  try rw [if_pos (by omega)]
                  try with_reducible rfl
                try simp only [Act.put, List.getElem_toArray, List.getElem_cons_succ, List.getElem_cons_zero, List.setIfInBounds_toArray, List.set_cons_zero, List.set_cons_succ]
                refine wpAnyH_take (i := 1) (v := ?_) rfl (by kernel_rfl) (by kernel_rfl) (by kernel_rfl) (fun _ _ _ h => h) (Or.inl ⟨by kernel_rfl, ?_⟩) hHeld ?_
                rotate_left
                · intro wq hSw
                  obtain ⟨s1, s2, s3⟩ := hSw
                  go_simp
                  try rw [if_neg (by omega)]
                  try rw [if_pos (by omega)]
                  try with_reducible rfl
                try simp only [Act.put, List.getElem_toArray, List.getElem_cons_succ, List.getElem_cons_zero, List.setIfInBounds_toArray, List.set_cons_zero, List.set_cons_succ]
                refine wpAnyH_take (i := 2) (v := ?_) rfl (by kernel_rfl) (by kernel_rfl) (by kernel_rfl) (fun _ _ _ h => h) (Or.inl ⟨by kernel_rfl, ?_⟩) hHeld ?_
                rotate_left
                · intro wq hSw
                  obtain ⟨s1, s2, s3⟩ := hSw
                  go_simp
                  try rw [if_neg (by omega)]
                  try rw [if_pos (by omega)]
                  try with_reducible rfl
                try simp only [Act.put, List.getElem_toArray, List.getElem_cons_succ, List.getElem_cons_zero, List.setIfInBounds_toArray, List.set_cons_zero, List.set_cons_succ]
                refine wpAnyH_take (i := 3) (v := ?_) rfl (by kernel_rfl) (by kernel_rfl) (by kernel_rfl) (fun _ _ _ h => h) (Or.inl ⟨by kernel_rfl, ?_⟩) hHeld ?_
                rotate_left
                · intro wq hSw
                  obtain ⟨s1, s2, s3⟩ := hSw
                  go_simp
                  try rw [if_neg (by omega)]
                  try rw [if_pos (by omega)]
                  try with_reducible rfl
                try simp only [Act.put, List.getElem_toArray, List.getElem_cons_succ, List.getElem_cons_zero, List.setIfInBounds_toArray, List.set_cons_zero, List.set_cons_succ]
                refine wpAnyH_take (i := 4) (v := ?_) rfl (by kernel_rfl) (by kernel_rfl) (by kernel_rfl) (fun _ _ _ h => h) (Or.inl ⟨by kernel_rfl, ?_⟩) hHeld ?_
                rotate_left
                · intro wq hSw
                  obtain ⟨s1, s2, s3⟩ := hSw
                  go_simp
                  try rw [if_neg (by omega)]
                  try rw [if_pos (by omega)]
                  try with_reducible rfl
                try simp only [Act.put, List.getElem_toArray, List.getElem_cons_succ, List.getElem_cons_zero, List.setIfInBounds_toArray, List.set_cons_zero, List.set_cons_succ]
                refine wpAnyH_take (i := 5) (v := ?_) rfl (by kernel_rfl) (by kernel_rfl) (by kernel_rfl) (fun _ _ _ h => h) (Or.inl ⟨by kernel_rfl, ?_⟩) hHeld ?_
                rotate_left
                · intro wq hSw
                  obtain ⟨s1, s2, s3⟩ := hSw
                  go_simp
                  try rw [if_neg (by omega)]
                  try rw [if_pos (by omega)]
                  try with_reducible rfl
                try simp only [Act.put, List.getElem_toArray, List.getElem_cons_succ, List.getElem_cons_zero, List.setIfInBounds_toArray, List.set_cons_zero, List.set_cons_succ]
                refine wpAnyH_take (i := 6) (v := ?_) rfl (by kernel_rfl) (by kernel_rfl) (by kernel_rfl) (fun _ _ _ h => h) (Or.inl ⟨by kernel_rfl, ?_⟩) hHeld ?_
                rotate_left
                · intro wq hSw
                  obtain ⟨s1, s2, s3⟩ := hSw
                  go_simp
                  try rw [if_neg (by omega)]
                  try rw [if_pos (by omega)]
                  try with_reducible rfl
                try simp only [Act.put, List.getElem_toArray, List.getElem_cons_succ, List.getElem_cons_zero, List.setIfInBounds_toArray, List.set_cons_zero, List.set_cons_succ]
                refine wpAnyH_take (i := 7) (v := ?_) rfl (by kernel_rfl) (by kernel_rfl) (by kernel_rfl) (fun _ _ _ h => h) (Or.inl ⟨by kernel_rfl, ?_⟩) hHeld ?_
                rotate_left
                · intro wq hSw
                  obtain ⟨s1, s2, s3⟩ := hSw
                  go_simp
                  try rw [if_neg (by omega)]
                  try rw [if_pos (by omega)]
                  try with_reducible rfl
                try simp only [Act.put, List.getElem_toArray, List.getElem_cons_succ, List.getElem_cons_zero, List.setIfInBounds_toArray, List.set_cons_zero, List.set_cons_succ]
                refine wpAnyH_take (i := 8) (v := ?_) rfl (by kernel_rfl) (by kernel_rfl) (by kernel_rfl) (fun _ _ _ h => h) (Or.inl ⟨by kernel_rfl, ?_⟩) hHeld ?_
                rotate_left
                · intro wq hSw
                  obtain ⟨s1, s2, s3⟩ := hSw
                  go_simp
                  try rw [if_neg (by omega)]
                  try rw [if_pos (by omega)]
                  try with_reducible rfl
                try simp only [Act.put, List.getElem_toArray, List.getElem_cons_succ, List.getElem_cons_zero, List.setIfInBounds_toArray, List.set_cons_zero, List.set_cons_succ]
                refine wpAnyH_take (i := 9) (v := ?_) rfl (by kernel_rfl) (by kernel_rfl) (by kernel_rfl) (fun _ _ _ h => h) (Or.inl ⟨by kernel_rfl, ?_⟩) hHeld ?_
                rotate_left
                · intro wq hSw
                  obtain ⟨s1, s2, s3⟩ := hSw
                  go_simp
                  try rw [if_neg (by omega)]
                  try rw [if_pos (by omega)]
                  try with_reducible rfl
                try simp only [Act.put, List.getElem_toArray, List.getElem_cons_succ, List.getElem_cons_zero, List.setIfInBounds_toArray, List.set_cons_zero, List.set_cons_succ]
                refine wpAnyH_take (i := 10) (v := ?_) rfl (by kernel_rfl) (by kernel_rfl) (by kernel_rfl) (fun _ _ _ h => h) (Or.inl ⟨by kernel_rfl, ?_⟩) hHeld ?_
                rotate_left
                · intro wq hSw
                  obtain ⟨s1, s2, s3⟩ := hSw
                  go_simp
                  try rw [if_neg (by omega)]
                  try rw [if_pos (by omega)]
                  try with_reducible rfl
                try simp only [Act.put, List.getElem_toArray, List.getElem_cons_succ, List.getElem_cons_zero, List.setIfInBounds_toArray, List.set_cons_zero, List.set_cons_succ]
                refine wpAnyH_take (i := 11) (v := ?_) rfl (by kernel_rfl) (by kernel_rfl) (by kernel_rfl) (fun _ _ _ h => h) (Or.inl ⟨by kernel_rfl, ?_⟩) hHeld ?_
                rotate_left
                · intro wq hSw
                  obtain ⟨s1, s2, s3⟩ := hSw
                  go_simp
                  try rw [if_neg (by omega)]
                  try rw [if_pos (by omega)]
                  try with_reducible rfl
                try simp only [Act.put, List.getElem_toArray, List.getElem_cons_succ, List.getElem_cons_zero, List.setIfInBounds_toArray, List.set_cons_zero, List.set_cons_succ]
                refine wpAnyH_take (i := 12) (v := ?_) rfl (by kernel_rfl) (by kernel_rfl) (by kernel_rfl) (fun _ _ _ h => h) (Or.inl ⟨by kernel_rfl, ?_⟩) hHeld ?_
                rotate_left
                · intro wq hSw
                  obtain ⟨s1, s2, s3⟩ := hSw
                  go_simp
                  try rw [if_neg (by omega)]
                  try rw [if_pos (by omega)]
                  try with_reducible rfl
                try simp only [Act.put, List.getElem_toArray, List.getElem_cons_succ, List.getElem_cons_zero, List.setIfInBounds_toArray, List.set_cons_zero, List.set_cons_succ]
                refine wpAnyH_take (i := 13) (v := ?_) rfl (by kernel_rfl) (by kernel_rfl) (by kernel_rfl) (fun _ _ _ h => h) (Or.inl ⟨by kernel_rfl, ?_⟩) hHeld ?_
                rotate_left
                · intro wq hSw
                  obtain ⟨s1, s2, s3⟩ := hSw
                  go_simp
                  try rw [if_neg (by omega)]
                  try rw [if_pos (by omega)]
                  try with_reducible rfl
                try simp only [Act.put, List.getElem_toArray, List.getElem_cons_succ, List.getElem_cons_zero, List.setIfInBounds_toArray, List.set_cons_zero, List.set_cons_succ]
                refine wpAnyH_take (i := 14) (v := ?_) rfl (by kernel_rfl) (by kernel_rfl) (by kernel_rfl) (fun _ _ _ h => h) (Or.inl ⟨by kernel_rfl, ?_⟩) hHeld ?_
                rotate_left
                · intro wq hSw
                  obtain ⟨s1, s2, s3⟩ := hSw
                  go_simp
                  try rw [if_neg (by omega)]
                  try rw [if_pos (by omega)]
                  try with_reducible rfl
                try simp only [Act.put, List.getElem_toArray, List.getElem_cons_succ, List.getElem_cons_zero, List.setIfInBounds_toArray, List.set_cons_zero, List.set_cons_succ]
                refine wpAnyH_take (i := 15) (v := ?_) rfl (by kernel_rfl) (by kernel_rfl) (by kernel_rfl) (fun _ _ _ h => h) (Or.inl ⟨by kernel_rfl, ?_⟩) hHeld ?_
                rotate_left
                · intro wq hSw
                  obtain ⟨s1, s2, s3⟩ := hSw
                  go_simp
                  try rw [if_neg (by omega)]
                  try rw [if_pos (by omega)]
                  try with_reducible rfl
                try simp only [Act.put, List.getElem_toArray, List.getElem_cons_succ, List.getElem_cons_zero, List.setIfInBounds_toArray, List.set_cons_zero, List.set_cons_succ]
                refine wpAnyH_take (i := 16) (v := ?_) rfl (by kernel_rfl) (by kernel_rfl) (by kernel_rfl) (fun _ _ _ h => h) (Or.inl ⟨by kernel_rfl, ?_⟩) hHeld ?_
                rotate_left
                · intro wq hSw
                  obtain ⟨s1, s2, s3⟩ := hSw
                  go_simp
                  try rw [if_neg (by omega)]
                  try rw [if_pos (by omega)]
                  try with_reducible rfl
                try simp only [Act.put, List.getElem_toArray, List.getElem_cons_succ, List.getElem_cons_zero, List.setIfInBounds_toArray, List.set_cons_zero, List.set_cons_succ]
                refine wpAnyH_take (i := 17) (v := ?_) rfl (by kernel_rfl) (by kernel_rfl) (by kernel_rfl) (fun _ _ _ h => h) (Or.inl ⟨by kernel_rfl, ?_⟩) hHeld ?_
                rotate_left
                · intro wq hSw
                  obtain ⟨s1, s2, s3⟩ := hSw
                  go_simp
                  try rw [if_neg (by omega)]
                  try rw [if_pos (by omega)]
                  try with_reducible rfl
                try simp only [Act.put, List.getElem_toArray, List.getElem_cons_succ, List.getElem_cons_zero, List.setIfInBounds_toArray, List.set_cons_zero, List.set_cons_succ]
                refine wpAnyH_take (i := 18) (v := ?_) rfl (by kernel_rfl) (by kernel_rfl) (by kernel_rfl) (fun _ _ _ h => h) (Or.inl ⟨by kernel_rfl, ?_⟩) hHeld ?_
                rotate_left
                · intro wq hSw
                  obtain ⟨s1, s2, s3⟩ := hSw
                  go_simp
                  try rw [if_neg (by omega)]
                  try rw [if_pos (by omega)]
                  try with_reducible rfl
                try simp only [Act.put, List.getElem_toArray, List.getElem_cons_succ, List.getElem_cons_zero, List.setIfInBounds_toArray, List.set_cons_zero, List.set_cons_succ]
                refine wpAnyH_take (i := 19) (v := ?_) rfl (by kernel_rfl) (by kernel_rfl) (by kernel_rfl) (fun _ _ _ h => h) (Or.inl ⟨by kernel_rfl, ?_⟩) hHeld ?_
                rotate_left
                · intro wq hSw
                  obtain ⟨s1, s2, s3⟩ := hSw
                  go_simp
                  try rw [if_neg (by omega)]
                  try rw [if_pos (by omega)]
                  try with_reducible rfl
                try simp only [Act.put, List.getElem_toArray, List.getElem_cons_succ, List.getElem_cons_zero, List.setIfInBounds_toArray, List.set_cons_zero, List.set_cons_succ]
                refine wpAnyH_take (i := 20) (v := ?_) rfl (by kernel_rfl) (by kernel_rfl) (by kernel_rfl) (fun _ _ _ h => h) (Or.inl ⟨by kernel_rfl, ?_⟩) hHeld ?_
                rotate_left
                · intro wq hSw
                  obtain ⟨s1, s2, s3⟩ := hSw
                  go_simp
                  try rw [if_neg (by omega)]
                  try rw [if_pos (by omega)]
                  try with_reducible rfl
                try simp only [Act.put, List.getElem_toArray, List.getElem_cons_succ, List.getElem_cons_zero, List.setIfInBounds_toArray, List.set_cons_zero, List.set_cons_succ]
                refine wpAnyH_take (i := 21) (v := ?_) rfl (by kernel_rfl) (by kernel_rfl) (by kernel_rfl) (fun _ _ _ h => h) (Or.inl ⟨by kernel_rfl, ?_⟩) hHeld ?_
                rotate_left
                · intro wq hSw
                  obtain ⟨s1, s2, s3⟩ := hSw
                  go_simp
                  try rw [if_neg (by omega)]
                  try rw [if_pos (by omega)]
                  try with_reducible rfl
                try simp only [Act.put, List.getElem_toArray, List.getElem_cons_succ, List.getElem_cons_zero, List.setIfInBounds_toArray, List.set_cons_zero, List.set_cons_succ]
                refine wpAnyH_take (i := 22) (v := ?_) rfl (by kernel_rfl) (by kernel_rfl) (by kernel_rfl) (fun _ _ _ h => h) (Or.inl ⟨by kernel_rfl, ?_⟩) hHeld ?_
                rotate_left
                · intro wq hSw
                  obtain ⟨s1, s2, s3⟩ := hSw
                  go_simp
                  try rw [if_neg (by omega)]
                  try rw [if_pos (by omega)]
                  try with_reducible rfl
                try simp only [Act.put, List.getElem_toArray, List.getElem_cons_succ, List.getElem_cons_zero, List.setIfInBounds_toArray, List.set_cons_zero, List.set_cons_succ]
                refine wpAnyH_take (i := 23) (v := ?_) rfl (by kernel_rfl) (by kernel_rfl) (by kernel_rfl) (fun _ _ _ h => h) (Or.inl ⟨by kernel_rfl, ?_⟩) hHeld ?_
                rotate_left
                · intro wq hSw
                  obtain ⟨s1, s2, s3⟩ := hSw
                  go_simp
                  try rw [if_neg (by omega)]
                  try rw [if_pos (by omega)]
                  try with_reducible rfl
                try simp only [Act.put, List.getElem_toArray, List.getElem_cons_succ, List.getElem_cons_zero, List.setIfInBounds_toArray, List.set_cons_zero, List.set_cons_succ]
                refine wpAnyH_take (i := 24) (v := ?_) rfl (by kernel_rfl) (by kernel_rfl) (by kernel_rfl) (fun _ _ _ h => h) (Or.inl ⟨by kernel_rfl, ?_⟩) hHeld ?_
                rotate_left
                · intro wq hSw
                  obtain ⟨s1, s2, s3⟩ := hSw
                  go_simp
                  try rw [if_neg (by omega)]
                  try rw [if_pos (by omega)]
                  try with_reducible rfl
                try simp only [Act.put, List.getElem_toArray, List.getElem_cons_succ, List.getElem_cons_zero, List.setIfInBounds_toArray, List.set_cons_zero, List.set_cons_succ]
                refine wpAnyH_done (by kernel_rfl) ?_ _
                go_wp2
                go_ret2
                exact Hbad.out Hno.out
              · have hOk : Hid (OkAt at' j) := Lib.hid (ok_at (by rw [Hn.out]; omega) (by rw [Hn.out]; exact hlt) (by rw [← Hg.out]; omega) (by rw [← Hg.out]; omega) h4)
                have hj1 : j = 0 ∨ j = 1 := by omega
                rcases hj1 with rfl | rfl
                · obtain rfl : g0 = g := by rw [Hg.out, Hg0.out]
                  clear h4
                  have hP12 : P < 2 ∨ ¬ P < 2 := by omega
                  rcases hP12 with hP1 | hP1
                  · have q1 : decide (1 < P) = false := by simp; omega
                    have q2 : decide ((1 : Int) < (P : Int)) = false := by simp; omega
                    obtain ⟨J2, hJ2⟩ : ∃ J2, J2 = min 200 l.length := ⟨_, rfl⟩
                    have m1 : min (200 : Int) (l.length : Int) = (J2 : Int) := by omega
                    have m2 : (J2 : Int) ≤ (l.length : Int) := by omega
                    have m3 : J2 ≤ l.length := by omega
                    have m4 : J2 ≤ 200 := by omega
                    have m5 : 0 ≤ J2 := by have := HP.out; unfold pgN at this; split at this <;> omega
                    have m6 : (0 : Int) ≤ (J2 : Int) := by omega
                    have hpc : S.extract 0 J2 = str (part l 0) := by rw [HS.out]; exact part_code l 0 J2 0 rfl hJ2
                    have hpl := part_len l 0
                    have hkk : (part l 0).length = J2 - 0 := by omega
                    obtain ⟨T1, hT1⟩ : ∃ T1, T1 = S.extract 0 J2 := ⟨_, rfl⟩
                    have hs1 : T1.size = J2 - 0 := by rw [hT1, hpc, str_size, hkk]
                    have hbody : Hid (∀ Z : ByteArray, Z = str (zs (240 - (J2 - 0))) → T1 ++ Z = str (body l 0)) := Lib.hid fun Z hZ => by
                      rw [hT1, hpc, hZ, body, hkk]
                      apply ByteArray.ext
                      simp [ByteArray.data_append]
                    have hT2 := hT1.symm
                    have hnext : nextOf at' 0 = 0 := by
                      unfold nextOf
                      rw [if_neg (by have := Hn.out; omega)]
                    have Hnext := Lib.hid hnext
                    clear hJ2 hpl hkk hT1 hpc hnext m5
                    go_wp2_with fail
                    refine wp_region_held_drew (S := (fun W' => W'.cell? ⟨b, off + 0, none⟩ = some (.int .i64 g0) ∧ W'.cell? ⟨b, off, none⟩ = some (.int .i64 g0) ∧ b < W'.heap.size)) (by kernel_rfl) (⟨hxa, hxa, Nat.lt_of_lt_of_le hbl hbel.size⟩) (fun hHeld => ?_)
                    refine wpAnyH_take (i := 0) (v := ?_) rfl (by kernel_rfl) (by kernel_rfl) (by kernel_rfl) (fun _ _ _ h => h) (Or.inl ⟨by kernel_rfl, ?_⟩) hHeld ?_
                    rotate_left
                    · intro wq hSw
                      obtain ⟨s1, s2, s3⟩ := hSw
                      go_simp
                      try rw [if_neg (by omega)]
                      try rw [if_pos (by omega)]
                      try with_reducible rfl
                    try simp only [Act.put, List.getElem_toArray, List.getElem_cons_succ, List.getElem_cons_zero, List.setIfInBounds_toArray, List.set_cons_zero, List.set_cons_succ]
                    refine wpAnyH_take (i := 1) (v := ?_) rfl (by kernel_rfl) (by kernel_rfl) (by kernel_rfl) (fun _ _ _ h => h) (Or.inl ⟨by kernel_rfl, ?_⟩) hHeld ?_
                    rotate_left
                    · intro wq hSw
                      obtain ⟨s1, s2, s3⟩ := hSw
                      go_simp
                      try rw [if_neg (by omega)]
                      try rw [if_pos (by omega)]
                      try with_reducible rfl
                    try simp only [Act.put, List.getElem_toArray, List.getElem_cons_succ, List.getElem_cons_zero, List.setIfInBounds_toArray, List.set_cons_zero, List.set_cons_succ]
                    refine wpAnyH_take (i := 2) (v := ?_) rfl (by kernel_rfl) (by kernel_rfl) (by kernel_rfl) (fun _ _ _ h => h) (Or.inl ⟨by kernel_rfl, ?_⟩) hHeld ?_
                    rotate_left
                    · intro wq hSw
                      obtain ⟨s1, s2, s3⟩ := hSw
                      go_simp
                      try rw [if_neg (by omega)]
                      try rw [if_pos (by omega)]
                      try with_reducible rfl
                    try simp only [Act.put, List.getElem_toArray, List.getElem_cons_succ, List.getElem_cons_zero, List.setIfInBounds_toArray, List.set_cons_zero, List.set_cons_succ]
                    refine wpAnyH_take (i := 3) (v := ?_) rfl (by kernel_rfl) (by kernel_rfl) (by kernel_rfl) (fun _ _ _ h => h) (Or.inl ⟨by kernel_rfl, ?_⟩) hHeld ?_
                    rotate_left
                    · intro wq hSw
                      obtain ⟨s1, s2, s3⟩ := hSw
                      go_simp
                      try rw [if_neg (by omega)]
                      try rw [if_pos (by omega)]
                      try with_reducible rfl
                    try simp only [Act.put, List.getElem_toArray, List.getElem_cons_succ, List.getElem_cons_zero, List.setIfInBounds_toArray, List.set_cons_zero, List.set_cons_succ]
                    refine wpAnyH_take (i := 4) (v := ?_) rfl (by kernel_rfl) (by kernel_rfl) (by kernel_rfl) (fun _ _ _ h => h) (Or.inl ⟨by kernel_rfl, ?_⟩) hHeld ?_
                    rotate_left
                    · intro wq hSw
                      obtain ⟨s1, s2, s3⟩ := hSw
                      go_simp
                      try rw [if_neg (by omega)]
                      try rw [if_pos (by omega)]
                      try with_reducible rfl
                    try simp only [Act.put, List.getElem_toArray, List.getElem_cons_succ, List.getElem_cons_zero, List.setIfInBounds_toArray, List.set_cons_zero, List.set_cons_succ]
                    refine wpAnyH_take (i := 5) (v := ?_) rfl (by kernel_rfl) (by kernel_rfl) (by kernel_rfl) (fun _ _ _ h => h) (Or.inl ⟨by kernel_rfl, ?_⟩) hHeld ?_
                    rotate_left
                    · intro wq hSw
                      obtain ⟨s1, s2, s3⟩ := hSw
                      go_simp
                      try rw [if_neg (by omega)]
                      try rw [if_pos (by omega)]
                      try with_reducible rfl
                    try simp only [Act.put, List.getElem_toArray, List.getElem_cons_succ, List.getElem_cons_zero, List.setIfInBounds_toArray, List.set_cons_zero, List.set_cons_succ]
                    refine wpAnyH_take (i := 6) (v := ?_) rfl (by kernel_rfl) (by kernel_rfl) (by kernel_rfl) (fun _ _ _ h => h) (Or.inl ⟨by kernel_rfl, ?_⟩) hHeld ?_
                    rotate_left
                    · intro wq hSw
                      obtain ⟨s1, s2, s3⟩ := hSw
                      go_simp
                      try rw [if_neg (by omega)]
                      try rw [if_pos (by omega)]
                      try with_reducible rfl
                    try simp only [Act.put, List.getElem_toArray, List.getElem_cons_succ, List.getElem_cons_zero, List.setIfInBounds_toArray, List.set_cons_zero, List.set_cons_succ]
                    refine wpAnyH_take (i := 7) (v := ?_) rfl (by kernel_rfl) (by kernel_rfl) (by kernel_rfl) (fun _ _ _ h => h) (Or.inl ⟨by kernel_rfl, ?_⟩) hHeld ?_
                    rotate_left
                    · intro wq hSw
                      obtain ⟨s1, s2, s3⟩ := hSw
                      go_simp
                      try rw [if_neg (by omega)]
                      try rw [if_pos (by omega)]
                      try with_reducible rfl
                    try simp only [Act.put, List.getElem_toArray, List.getElem_cons_succ, List.getElem_cons_zero, List.setIfInBounds_toArray, List.set_cons_zero, List.set_cons_succ]
                    refine wpAnyH_take (i := 8) (v := ?_) rfl (by kernel_rfl) (by kernel_rfl) (by kernel_rfl) (fun _ _ _ h => h) (Or.inl ⟨by kernel_rfl, ?_⟩) hHeld ?_
                    rotate_left
                    · intro wq hSw
                      obtain ⟨s1, s2, s3⟩ := hSw
                      go_simp
                      try rw [if_neg (by omega)]
                      try rw [if_pos (by omega)]
                      try with_reducible rfl
                    try simp only [Act.put, List.getElem_toArray, List.getElem_cons_succ, List.getElem_cons_zero, List.setIfInBounds_toArray, List.set_cons_zero, List.set_cons_succ]
                    refine wpAnyH_take (i := 9) (v := ?_) rfl (by kernel_rfl) (by kernel_rfl) (by kernel_rfl) (fun _ _ _ h => h) (Or.inl ⟨by kernel_rfl, ?_⟩) hHeld ?_
                    rotate_left
                    · intro wq hSw
                      obtain ⟨s1, s2, s3⟩ := hSw
                      go_simp
                      try rw [if_neg (by omega)]
                      try rw [if_pos (by omega)]
                      try with_reducible rfl
                    try simp only [Act.put, List.getElem_toArray, List.getElem_cons_succ, List.getElem_cons_zero, List.setIfInBounds_toArray, List.set_cons_zero, List.set_cons_succ]
                    refine wpAnyH_take (i := 10) (v := ?_) rfl (by kernel_rfl) (by kernel_rfl) (by kernel_rfl) (fun _ _ _ h => h) (Or.inl ⟨by kernel_rfl, ?_⟩) hHeld ?_
                    rotate_left
                    · intro wq hSw
                      obtain ⟨s1, s2, s3⟩ := hSw
                      go_simp
                      try rw [if_neg (by omega)]
                      try rw [if_pos (by omega)]
                      try with_reducible rfl
                    try simp only [Act.put, List.getElem_toArray, List.getElem_cons_succ, List.getElem_cons_zero, List.setIfInBounds_toArray, List.set_cons_zero, List.set_cons_succ]
                    refine wpAnyH_take (i := 11) (v := ?_) rfl (by kernel_rfl) (by kernel_rfl) (by kernel_rfl) (fun _ _ _ h => h) (Or.inl ⟨by kernel_rfl, ?_⟩) hHeld ?_
                    rotate_left
                    · intro wq hSw
                      obtain ⟨s1, s2, s3⟩ := hSw
                      go_simp
                      try rw [if_neg (by omega)]
                      try rw [if_pos (by omega)]
                      try with_reducible rfl
                    try simp only [Act.put, List.getElem_toArray, List.getElem_cons_succ, List.getElem_cons_zero, List.setIfInBounds_toArray, List.set_cons_zero, List.set_cons_succ]
                    refine wpAnyH_take (i := 12) (v := ?_) rfl (by kernel_rfl) (by kernel_rfl) (by kernel_rfl) (fun _ _ _ h => h) (Or.inl ⟨by kernel_rfl, ?_⟩) hHeld ?_
                    rotate_left
                    · intro wq hSw
                      obtain ⟨s1, s2, s3⟩ := hSw
                      go_simp
                      try rw [if_neg (by omega)]
                      try rw [if_pos (by omega)]
                      try with_reducible rfl
                    try simp only [Act.put, List.getElem_toArray, List.getElem_cons_succ, List.getElem_cons_zero, List.setIfInBounds_toArray, List.set_cons_zero, List.set_cons_succ]
                    refine wpAnyH_take (i := 13) (v := ?_) rfl (by kernel_rfl) (by kernel_rfl) (by kernel_rfl) (fun _ _ _ h => h) (Or.inl ⟨by kernel_rfl, ?_⟩) hHeld ?_
                    rotate_left
                    · intro wq hSw
                      obtain ⟨s1, s2, s3⟩ := hSw
                      go_simp
                      try rw [if_neg (by omega)]
                      try rw [if_pos (by omega)]
                      try with_reducible rfl
                    try simp only [Act.put, List.getElem_toArray, List.getElem_cons_succ, List.getElem_cons_zero, List.setIfInBounds_toArray, List.set_cons_zero, List.set_cons_succ]
                    refine wpAnyH_take (i := 14) (v := ?_) rfl (by kernel_rfl) (by kernel_rfl) (by kernel_rfl) (fun _ _ _ h => h) (Or.inl ⟨by kernel_rfl, ?_⟩) hHeld ?_
                    rotate_left
                    · intro wq hSw
                      obtain ⟨s1, s2, s3⟩ := hSw
                      go_simp
                      try rw [if_neg (by omega)]
                      try rw [if_pos (by omega)]
                      try with_reducible rfl
                    try simp only [Act.put, List.getElem_toArray, List.getElem_cons_succ, List.getElem_cons_zero, List.setIfInBounds_toArray, List.set_cons_zero, List.set_cons_succ]
                    refine wpAnyH_take (i := 15) (v := ?_) rfl (by kernel_rfl) (by kernel_rfl) (by kernel_rfl) (fun _ _ _ h => h) (Or.inl ⟨by kernel_rfl, ?_⟩) hHeld ?_
                    rotate_left
                    · intro wq hSw
                      obtain ⟨s1, s2, s3⟩ := hSw
                      go_simp
                      try rw [if_neg (by omega)]
                      try rw [if_pos (by omega)]
                      try with_reducible rfl
                    try simp only [Act.put, List.getElem_toArray, List.getElem_cons_succ, List.getElem_cons_zero, List.setIfInBounds_toArray, List.set_cons_zero, List.set_cons_succ]
                    refine wpAnyH_take (i := 16) (v := undef) rfl (by kernel_rfl) (by kernel_rfl) (by kernel_rfl) (fun _ _ _ h => h) (Or.inr ⟨by kernel_rfl, rfl⟩) hHeld ?_
                    try simp only [Act.put, List.getElem_toArray, List.getElem_cons_succ, List.getElem_cons_zero, List.setIfInBounds_toArray, List.set_cons_zero, List.set_cons_succ]
                    refine wpAnyH_take (i := 17) (v := undef) rfl (by kernel_rfl) (by kernel_rfl) (by kernel_rfl) (fun _ _ _ h => h) (Or.inr ⟨by kernel_rfl, rfl⟩) hHeld ?_
                    try simp only [Act.put, List.getElem_toArray, List.getElem_cons_succ, List.getElem_cons_zero, List.setIfInBounds_toArray, List.set_cons_zero, List.set_cons_succ]
                    refine wpAnyH_take (i := 18) (v := undef) rfl (by kernel_rfl) (by kernel_rfl) (by kernel_rfl) (fun _ _ _ h => h) (Or.inr ⟨by kernel_rfl, rfl⟩) hHeld ?_
                    try simp only [Act.put, List.getElem_toArray, List.getElem_cons_succ, List.getElem_cons_zero, List.setIfInBounds_toArray, List.set_cons_zero, List.set_cons_succ]
                    refine wpAnyH_take (i := 19) (v := undef) rfl (by kernel_rfl) (by kernel_rfl) (by kernel_rfl) (fun _ _ _ h => h) (Or.inr ⟨by kernel_rfl, rfl⟩) hHeld ?_
                    try simp only [Act.put, List.getElem_toArray, List.getElem_cons_succ, List.getElem_cons_zero, List.setIfInBounds_toArray, List.set_cons_zero, List.set_cons_succ]
                    refine wpAnyH_take (i := 20) (v := undef) rfl (by kernel_rfl) (by kernel_rfl) (by kernel_rfl) (fun _ _ _ h => h) (Or.inr ⟨by kernel_rfl, rfl⟩) hHeld ?_
                    try simp only [Act.put, List.getElem_toArray, List.getElem_cons_succ, List.getElem_cons_zero, List.setIfInBounds_toArray, List.set_cons_zero, List.set_cons_succ]
                    refine wpAnyH_take (i := 21) (v := undef) rfl (by kernel_rfl) (by kernel_rfl) (by kernel_rfl) (fun _ _ _ h => h) (Or.inr ⟨by kernel_rfl, rfl⟩) hHeld ?_
                    try simp only [Act.put, List.getElem_toArray, List.getElem_cons_succ, List.getElem_cons_zero, List.setIfInBounds_toArray, List.set_cons_zero, List.set_cons_succ]
                    refine wpAnyH_take (i := 22) (v := undef) rfl (by kernel_rfl) (by kernel_rfl) (by kernel_rfl) (fun _ _ _ h => h) (Or.inr ⟨by kernel_rfl, rfl⟩) hHeld ?_
                    try simp only [Act.put, List.getElem_toArray, List.getElem_cons_succ, List.getElem_cons_zero, List.setIfInBounds_toArray, List.set_cons_zero, List.set_cons_succ]
                    refine wpAnyH_take (i := 23) (v := ?_) rfl (by kernel_rfl) (by kernel_rfl) (by kernel_rfl) (fun _ _ _ h => h) (Or.inl ⟨by kernel_rfl, ?_⟩) hHeld ?_
                    rotate_left
                    · intro wq hSw
                      obtain ⟨s1, s2, s3⟩ := hSw
                      go_simp
                      try rw [if_neg (by omega)]
                      try rw [if_pos (by omega)]
                      try with_reducible rfl
                    try simp only [Act.put, List.getElem_toArray, List.getElem_cons_succ, List.getElem_cons_zero, List.setIfInBounds_toArray, List.set_cons_zero, List.set_cons_succ]
                    refine wpAnyH_take (i := 24) (v := ?_) rfl (by kernel_rfl) (by kernel_rfl) (by kernel_rfl) (fun _ _ _ h => h) (Or.inl ⟨by kernel_rfl, ?_⟩) hHeld ?_
                    rotate_left
                    · intro wq hSw
                      obtain ⟨s1, s2, s3⟩ := hSw
                      go_simp
                      try rw [if_neg (by omega)]
                      try rw [if_pos (by omega)]
                      try with_reducible rfl
                    try simp only [Act.put, List.getElem_toArray, List.getElem_cons_succ, List.getElem_cons_zero, List.setIfInBounds_toArray, List.set_cons_zero, List.set_cons_succ]
                    refine wpAnyH_done (by kernel_rfl) ?_ _
                    clear hHeld
                    go_wp2_with fail
                    ((with_reducible refine (refZerosI_any _ (240 - (J2 - 0)) _ (by omega) (by omega)).mono ?_); rintro e w3 ⟨rfl, hb3⟩)
                    have hbw3 := below_tr (below_dr hbel) hb3
                    have hown3 := own_below hown.drew hb3
                    have hbl3 : b < w3.heap.size := Nat.lt_of_lt_of_le hbl hbw3.size
                    skip
                    obtain ⟨Z, hZ⟩ : ∃ Z, Z = str (zs (240 - (J2 - 0))) := ⟨_, rfl⟩
                    rw [← hZ]
                    have HB := Lib.hid (hbody.out Z hZ)
                    have hzs : Z.size = 240 - (J2 - 0) := by rw [hZ, str_size]; exact List.length_replicate
                    clear hb3 hZ hown hbel hx hxa
                    go_wp2_with (at_builtin; refine wpList_append_own _ rfl (.tmp 81) (.tmp 83) _ rfl w2.heap.size 26 i0 (.agg #[.int .i64 0, .int .i64 0, .int .i64 0, .string ⟨#[]⟩]) 4 40 Tryz.underlying23 hi hz0 hz1 hz2 rfl (by decide) _ 0 (rows l at' 0) rfl ((hown3.alloc _).alloc _) ⟨w3.heap.size + 1, 0, none⟩ 1 1 [.int .i64 5, .int .i64 0, .int .i64 0, .string (T1 ++ Z)] rfl rfl (cells_new _ _ (by simp) _ _) (by intro u hu; simp at hu; rcases hu with rfl | rfl | rfl | rfl <;> rfl) (by unfold maxLen; omega) (by omega) (by have := hbw3.size; simp; omega) ?_; intro v' w4 hown4 hgrow _)
                    go_roundw
                    case rel =>
                      refine ⟨0 + 1, by go_num, by omega, ?_, ?_, Lib.hid (fun i hi => ?_)⟩
                      · rw [rows, pgRow, ← HB.out, Hnext.out]
                        exact hown4
                      · exact below_grown (below_al (below_al hbw3 _) _) (by have := hbw3.size; simp; omega) hown3 hgrow
                      · rcases Nat.lt_or_eq_of_le (Nat.le_of_lt_succ hi) with h | h
                        · exact hoks.out i h
                        · rw [h]; exact hOk.out
                    case measure => simp [intOf]; omega
                  · have q1 : decide (1 < P) = true := by simp; omega
                    have q2 : decide ((1 : Int) < (P : Int)) = true := by simp; omega
                    have q3 : 1 < P := by omega
                    obtain ⟨gn, hgn⟩ : ∃ gn, gn = at'.getD 1 0 := ⟨_, rfl⟩
                    have HGN := Lib.hid hgn
                    clear hgn
                    obtain ⟨J2, hJ2⟩ : ∃ J2, J2 = min 200 l.length := ⟨_, rfl⟩
                    have m1 : min (200 : Int) (l.length : Int) = (J2 : Int) := by omega
                    have m2 : (J2 : Int) ≤ (l.length : Int) := by omega
                    have m3 : J2 ≤ l.length := by omega
                    have m4 : J2 ≤ 200 := by omega
                    have m5 : 0 ≤ J2 := by have := HP.out; unfold pgN at this; split at this <;> omega
                    have m6 : (0 : Int) ≤ (J2 : Int) := by omega
                    have hpc : S.extract 0 J2 = str (part l 0) := by rw [HS.out]; exact part_code l 0 J2 0 rfl hJ2
                    have hpl := part_len l 0
                    have hkk : (part l 0).length = J2 - 0 := by omega
                    obtain ⟨T1, hT1⟩ : ∃ T1, T1 = S.extract 0 J2 := ⟨_, rfl⟩
                    have hs1 : T1.size = J2 - 0 := by rw [hT1, hpc, str_size, hkk]
                    have hbody : Hid (∀ Z : ByteArray, Z = str (zs (240 - (J2 - 0))) → T1 ++ Z = str (body l 0)) := Lib.hid fun Z hZ => by
                      rw [hT1, hpc, hZ, body, hkk]
                      apply ByteArray.ext
                      simp [ByteArray.data_append]
                    have hT2 := hT1.symm
                    have hnext : nextOf at' 0 = gn := by
                      unfold nextOf
                      rw [if_pos (by have := Hn.out; omega)]
                      exact HGN.out.symm
                    have Hnext := Lib.hid hnext
                    clear hJ2 hpl hkk hT1 hpc hnext m5
                    go_wp2_with fail
                    refine wp_region_held_drew (S := (fun W' => W'.cell? ⟨b, off + 0, none⟩ = some (.int .i64 g0) ∧ W'.cell? ⟨b, off, none⟩ = some (.int .i64 g0) ∧ b < W'.heap.size)) (by kernel_rfl) (⟨hxa, hxa, Nat.lt_of_lt_of_le hbl hbel.size⟩) (fun hHeld => ?_)
                    refine wpAnyH_take (i := 0) (v := ?_) rfl (by kernel_rfl) (by kernel_rfl) (by kernel_rfl) (fun _ _ _ h => h) (Or.inl ⟨by kernel_rfl, ?_⟩) hHeld ?_
                    rotate_left
                    · intro wq hSw
                      obtain ⟨s1, s2, s3⟩ := hSw
                      go_simp
                      try rw [if_neg (by omega)]
                      try rw [if_pos (by omega)]
                      try with_reducible rfl
                    try simp only [Act.put, List.getElem_toArray, List.getElem_cons_succ, List.getElem_cons_zero, List.setIfInBounds_toArray, List.set_cons_zero, List.set_cons_succ]
                    refine wpAnyH_take (i := 1) (v := ?_) rfl (by kernel_rfl) (by kernel_rfl) (by kernel_rfl) (fun _ _ _ h => h) (Or.inl ⟨by kernel_rfl, ?_⟩) hHeld ?_
                    rotate_left
                    · intro wq hSw
                      obtain ⟨s1, s2, s3⟩ := hSw
                      go_simp
                      try rw [if_neg (by omega)]
                      try rw [if_pos (by omega)]
                      try with_reducible rfl
                    try simp only [Act.put, List.getElem_toArray, List.getElem_cons_succ, List.getElem_cons_zero, List.setIfInBounds_toArray, List.set_cons_zero, List.set_cons_succ]
                    refine wpAnyH_take (i := 2) (v := ?_) rfl (by kernel_rfl) (by kernel_rfl) (by kernel_rfl) (fun _ _ _ h => h) (Or.inl ⟨by kernel_rfl, ?_⟩) hHeld ?_
                    rotate_left
                    · intro wq hSw
                      obtain ⟨s1, s2, s3⟩ := hSw
                      go_simp
                      try rw [if_neg (by omega)]
                      try rw [if_pos (by omega)]
                      try with_reducible rfl
                    try simp only [Act.put, List.getElem_toArray, List.getElem_cons_succ, List.getElem_cons_zero, List.setIfInBounds_toArray, List.set_cons_zero, List.set_cons_succ]
                    refine wpAnyH_take (i := 3) (v := ?_) rfl (by kernel_rfl) (by kernel_rfl) (by kernel_rfl) (fun _ _ _ h => h) (Or.inl ⟨by kernel_rfl, ?_⟩) hHeld ?_
                    rotate_left
                    · intro wq hSw
                      obtain ⟨s1, s2, s3⟩ := hSw
                      go_simp
                      try rw [if_neg (by omega)]
                      try rw [if_pos (by omega)]
                      try with_reducible rfl
                    try simp only [Act.put, List.getElem_toArray, List.getElem_cons_succ, List.getElem_cons_zero, List.setIfInBounds_toArray, List.set_cons_zero, List.set_cons_succ]
                    refine wpAnyH_take (i := 4) (v := ?_) rfl (by kernel_rfl) (by kernel_rfl) (by kernel_rfl) (fun _ _ _ h => h) (Or.inl ⟨by kernel_rfl, ?_⟩) hHeld ?_
                    rotate_left
                    · intro wq hSw
                      obtain ⟨s1, s2, s3⟩ := hSw
                      go_simp
                      try rw [if_neg (by omega)]
                      try rw [if_pos (by omega)]
                      try with_reducible rfl
                    try simp only [Act.put, List.getElem_toArray, List.getElem_cons_succ, List.getElem_cons_zero, List.setIfInBounds_toArray, List.set_cons_zero, List.set_cons_succ]
                    refine wpAnyH_take (i := 5) (v := ?_) rfl (by kernel_rfl) (by kernel_rfl) (by kernel_rfl) (fun _ _ _ h => h) (Or.inl ⟨by kernel_rfl, ?_⟩) hHeld ?_
                    rotate_left
                    · intro wq hSw
                      obtain ⟨s1, s2, s3⟩ := hSw
                      go_simp
                      try rw [if_neg (by omega)]
                      try rw [if_pos (by omega)]
                      try with_reducible rfl
                    try simp only [Act.put, List.getElem_toArray, List.getElem_cons_succ, List.getElem_cons_zero, List.setIfInBounds_toArray, List.set_cons_zero, List.set_cons_succ]
                    refine wpAnyH_take (i := 6) (v := ?_) rfl (by kernel_rfl) (by kernel_rfl) (by kernel_rfl) (fun _ _ _ h => h) (Or.inl ⟨by kernel_rfl, ?_⟩) hHeld ?_
                    rotate_left
                    · intro wq hSw
                      obtain ⟨s1, s2, s3⟩ := hSw
                      go_simp
                      try rw [if_neg (by omega)]
                      try rw [if_pos (by omega)]
                      try with_reducible rfl
                    try simp only [Act.put, List.getElem_toArray, List.getElem_cons_succ, List.getElem_cons_zero, List.setIfInBounds_toArray, List.set_cons_zero, List.set_cons_succ]
                    refine wpAnyH_take (i := 7) (v := ?_) rfl (by kernel_rfl) (by kernel_rfl) (by kernel_rfl) (fun _ _ _ h => h) (Or.inl ⟨by kernel_rfl, ?_⟩) hHeld ?_
                    rotate_left
                    · intro wq hSw
                      obtain ⟨s1, s2, s3⟩ := hSw
                      go_simp
                      try rw [if_neg (by omega)]
                      try rw [if_pos (by omega)]
                      try with_reducible rfl
                    try simp only [Act.put, List.getElem_toArray, List.getElem_cons_succ, List.getElem_cons_zero, List.setIfInBounds_toArray, List.set_cons_zero, List.set_cons_succ]
                    refine wpAnyH_take (i := 8) (v := ?_) rfl (by kernel_rfl) (by kernel_rfl) (by kernel_rfl) (fun _ _ _ h => h) (Or.inl ⟨by kernel_rfl, ?_⟩) hHeld ?_
                    rotate_left
                    · intro wq hSw
                      obtain ⟨s1, s2, s3⟩ := hSw
                      go_simp
                      try rw [if_neg (by omega)]
                      try rw [if_pos (by omega)]
                      try with_reducible rfl
                    try simp only [Act.put, List.getElem_toArray, List.getElem_cons_succ, List.getElem_cons_zero, List.setIfInBounds_toArray, List.set_cons_zero, List.set_cons_succ]
                    refine wpAnyH_take (i := 9) (v := ?_) rfl (by kernel_rfl) (by kernel_rfl) (by kernel_rfl) (fun _ _ _ h => h) (Or.inl ⟨by kernel_rfl, ?_⟩) hHeld ?_
                    rotate_left
                    · intro wq hSw
                      obtain ⟨s1, s2, s3⟩ := hSw
                      go_simp
                      try rw [if_neg (by omega)]
                      try rw [if_pos (by omega)]
                      try with_reducible rfl
                    try simp only [Act.put, List.getElem_toArray, List.getElem_cons_succ, List.getElem_cons_zero, List.setIfInBounds_toArray, List.set_cons_zero, List.set_cons_succ]
                    refine wpAnyH_take (i := 10) (v := ?_) rfl (by kernel_rfl) (by kernel_rfl) (by kernel_rfl) (fun _ _ _ h => h) (Or.inl ⟨by kernel_rfl, ?_⟩) hHeld ?_
                    rotate_left
                    · intro wq hSw
                      obtain ⟨s1, s2, s3⟩ := hSw
                      go_simp
                      try rw [if_neg (by omega)]
                      try rw [if_pos (by omega)]
                      try with_reducible rfl
                    try simp only [Act.put, List.getElem_toArray, List.getElem_cons_succ, List.getElem_cons_zero, List.setIfInBounds_toArray, List.set_cons_zero, List.set_cons_succ]
                    refine wpAnyH_take (i := 11) (v := ?_) rfl (by kernel_rfl) (by kernel_rfl) (by kernel_rfl) (fun _ _ _ h => h) (Or.inl ⟨by kernel_rfl, ?_⟩) hHeld ?_
                    rotate_left
                    · intro wq hSw
                      obtain ⟨s1, s2, s3⟩ := hSw
                      go_simp
                      try rw [if_neg (by omega)]
                      try rw [if_pos (by omega)]
                      try with_reducible rfl
                    try simp only [Act.put, List.getElem_toArray, List.getElem_cons_succ, List.getElem_cons_zero, List.setIfInBounds_toArray, List.set_cons_zero, List.set_cons_succ]
                    refine wpAnyH_take (i := 12) (v := ?_) rfl (by kernel_rfl) (by kernel_rfl) (by kernel_rfl) (fun _ _ _ h => h) (Or.inl ⟨by kernel_rfl, ?_⟩) hHeld ?_
                    rotate_left
                    · intro wq hSw
                      obtain ⟨s1, s2, s3⟩ := hSw
                      go_simp
                      try rw [if_neg (by omega)]
                      try rw [if_pos (by omega)]
                      try with_reducible rfl
                    try simp only [Act.put, List.getElem_toArray, List.getElem_cons_succ, List.getElem_cons_zero, List.setIfInBounds_toArray, List.set_cons_zero, List.set_cons_succ]
                    refine wpAnyH_take (i := 13) (v := ?_) rfl (by kernel_rfl) (by kernel_rfl) (by kernel_rfl) (fun _ _ _ h => h) (Or.inl ⟨by kernel_rfl, ?_⟩) hHeld ?_
                    rotate_left
                    · intro wq hSw
                      obtain ⟨s1, s2, s3⟩ := hSw
                      go_simp
                      try rw [if_neg (by omega)]
                      try rw [if_pos (by omega)]
                      try with_reducible rfl
                    try simp only [Act.put, List.getElem_toArray, List.getElem_cons_succ, List.getElem_cons_zero, List.setIfInBounds_toArray, List.set_cons_zero, List.set_cons_succ]
                    refine wpAnyH_take (i := 14) (v := ?_) rfl (by kernel_rfl) (by kernel_rfl) (by kernel_rfl) (fun _ _ _ h => h) (Or.inl ⟨by kernel_rfl, ?_⟩) hHeld ?_
                    rotate_left
                    · intro wq hSw
                      obtain ⟨s1, s2, s3⟩ := hSw
                      go_simp
                      try rw [if_neg (by omega)]
                      try rw [if_pos (by omega)]
                      try with_reducible rfl
                    try simp only [Act.put, List.getElem_toArray, List.getElem_cons_succ, List.getElem_cons_zero, List.setIfInBounds_toArray, List.set_cons_zero, List.set_cons_succ]
                    refine wpAnyH_take (i := 15) (v := ?_) rfl (by kernel_rfl) (by kernel_rfl) (by kernel_rfl) (fun _ _ _ h => h) (Or.inl ⟨by kernel_rfl, ?_⟩) hHeld ?_
                    rotate_left
                    · intro wq hSw
                      obtain ⟨s1, s2, s3⟩ := hSw
                      go_simp
                      try rw [if_neg (by omega)]
                      try rw [if_pos (by omega)]
                      try with_reducible rfl
                    try simp only [Act.put, List.getElem_toArray, List.getElem_cons_succ, List.getElem_cons_zero, List.setIfInBounds_toArray, List.set_cons_zero, List.set_cons_succ]
                    refine wpAnyH_take (i := 16) (v := undef) rfl (by kernel_rfl) (by kernel_rfl) (by kernel_rfl) (fun _ _ _ h => h) (Or.inr ⟨by kernel_rfl, rfl⟩) hHeld ?_
                    try simp only [Act.put, List.getElem_toArray, List.getElem_cons_succ, List.getElem_cons_zero, List.setIfInBounds_toArray, List.set_cons_zero, List.set_cons_succ]
                    refine wpAnyH_take (i := 17) (v := undef) rfl (by kernel_rfl) (by kernel_rfl) (by kernel_rfl) (fun _ _ _ h => h) (Or.inr ⟨by kernel_rfl, rfl⟩) hHeld ?_
                    try simp only [Act.put, List.getElem_toArray, List.getElem_cons_succ, List.getElem_cons_zero, List.setIfInBounds_toArray, List.set_cons_zero, List.set_cons_succ]
                    refine wpAnyH_take (i := 18) (v := undef) rfl (by kernel_rfl) (by kernel_rfl) (by kernel_rfl) (fun _ _ _ h => h) (Or.inr ⟨by kernel_rfl, rfl⟩) hHeld ?_
                    try simp only [Act.put, List.getElem_toArray, List.getElem_cons_succ, List.getElem_cons_zero, List.setIfInBounds_toArray, List.set_cons_zero, List.set_cons_succ]
                    refine wpAnyH_take (i := 19) (v := undef) rfl (by kernel_rfl) (by kernel_rfl) (by kernel_rfl) (fun _ _ _ h => h) (Or.inr ⟨by kernel_rfl, rfl⟩) hHeld ?_
                    try simp only [Act.put, List.getElem_toArray, List.getElem_cons_succ, List.getElem_cons_zero, List.setIfInBounds_toArray, List.set_cons_zero, List.set_cons_succ]
                    refine wpAnyH_take (i := 20) (v := undef) rfl (by kernel_rfl) (by kernel_rfl) (by kernel_rfl) (fun _ _ _ h => h) (Or.inr ⟨by kernel_rfl, rfl⟩) hHeld ?_
                    try simp only [Act.put, List.getElem_toArray, List.getElem_cons_succ, List.getElem_cons_zero, List.setIfInBounds_toArray, List.set_cons_zero, List.set_cons_succ]
                    refine wpAnyH_take (i := 21) (v := undef) rfl (by kernel_rfl) (by kernel_rfl) (by kernel_rfl) (fun _ _ _ h => h) (Or.inr ⟨by kernel_rfl, rfl⟩) hHeld ?_
                    try simp only [Act.put, List.getElem_toArray, List.getElem_cons_succ, List.getElem_cons_zero, List.setIfInBounds_toArray, List.set_cons_zero, List.set_cons_succ]
                    refine wpAnyH_take (i := 22) (v := undef) rfl (by kernel_rfl) (by kernel_rfl) (by kernel_rfl) (fun _ _ _ h => h) (Or.inr ⟨by kernel_rfl, rfl⟩) hHeld ?_
                    try simp only [Act.put, List.getElem_toArray, List.getElem_cons_succ, List.getElem_cons_zero, List.setIfInBounds_toArray, List.set_cons_zero, List.set_cons_succ]
                    refine wpAnyH_take (i := 23) (v := ?_) rfl (by kernel_rfl) (by kernel_rfl) (by kernel_rfl) (fun _ _ _ h => h) (Or.inl ⟨by kernel_rfl, ?_⟩) hHeld ?_
                    rotate_left
                    · intro wq hSw
                      obtain ⟨s1, s2, s3⟩ := hSw
                      go_simp
                      try rw [if_neg (by omega)]
                      try rw [if_pos (by omega)]
                      try with_reducible rfl
                    try simp only [Act.put, List.getElem_toArray, List.getElem_cons_succ, List.getElem_cons_zero, List.setIfInBounds_toArray, List.set_cons_zero, List.set_cons_succ]
                    refine wpAnyH_take (i := 24) (v := ?_) rfl (by kernel_rfl) (by kernel_rfl) (by kernel_rfl) (fun _ _ _ h => h) (Or.inl ⟨by kernel_rfl, ?_⟩) hHeld ?_
                    rotate_left
                    · intro wq hSw
                      obtain ⟨s1, s2, s3⟩ := hSw
                      go_simp
                      try rw [if_neg (by omega)]
                      try rw [if_pos (by omega)]
                      try with_reducible rfl
                    try simp only [Act.put, List.getElem_toArray, List.getElem_cons_succ, List.getElem_cons_zero, List.setIfInBounds_toArray, List.set_cons_zero, List.set_cons_succ]
                    refine wpAnyH_done (by kernel_rfl) ?_ _
                    clear hHeld
                    go_wp2_with fail
                    ((with_reducible refine (refZerosI_any _ (240 - (J2 - 0)) _ (by omega) (by omega)).mono ?_); rintro e w3 ⟨rfl, hb3⟩)
                    have hbw3 := below_tr (below_dr hbel) hb3
                    have hown3 := own_below hown.drew hb3
                    have hbl3 : b < w3.heap.size := Nat.lt_of_lt_of_le hbl hbw3.size
                    have hxn := (hbw3.cell (p := ⟨b, off + 1, none⟩) hbl).trans (Hcell.out 1 (by omega))
                    rw [← HGN.out] at hxn
                    obtain ⟨Z, hZ⟩ : ∃ Z, Z = str (zs (240 - (J2 - 0))) := ⟨_, rfl⟩
                    rw [← hZ]
                    have HB := Lib.hid (hbody.out Z hZ)
                    have hzs : Z.size = 240 - (J2 - 0) := by rw [hZ, str_size]; exact List.length_replicate
                    clear hb3 hZ hown hbel hx hxa
                    go_wp2_with (at_builtin; refine wpList_append_own _ rfl (.tmp 81) (.tmp 83) _ rfl w2.heap.size 26 i0 (.agg #[.int .i64 0, .int .i64 0, .int .i64 0, .string ⟨#[]⟩]) 4 40 Tryz.underlying23 hi hz0 hz1 hz2 rfl (by decide) _ 0 (rows l at' 0) rfl ((hown3.alloc _).alloc _) ⟨w3.heap.size + 1, 0, none⟩ 1 1 [.int .i64 5, .int .i64 0, .int .i64 gn, .string (T1 ++ Z)] rfl rfl (cells_new _ _ (by simp) _ _) (by intro u hu; simp at hu; rcases hu with rfl | rfl | rfl | rfl <;> rfl) (by unfold maxLen; omega) (by omega) (by have := hbw3.size; simp; omega) ?_; intro v' w4 hown4 hgrow _)
                    go_roundw
                    case rel =>
                      refine ⟨0 + 1, by go_num, by omega, ?_, ?_, Lib.hid (fun i hi => ?_)⟩
                      · rw [rows, pgRow, ← HB.out, Hnext.out]
                        exact hown4
                      · exact below_grown (below_al (below_al hbw3 _) _) (by have := hbw3.size; simp; omega) hown3 hgrow
                      · rcases Nat.lt_or_eq_of_le (Nat.le_of_lt_succ hi) with h | h
                        · exact hoks.out i h
                        · rw [h]; exact hOk.out
                    case measure => simp [intOf]; omega
                · have hne : Hid (¬ at'.getD 0 0 = at'.getD 1 0) := Lib.hid fun h => h4 ⟨by omega, h⟩
                  have hgne : (g0 == g) = false := by
                    rw [beq_eq_false_iff_ne, Hg.out, Hg0.out]
                    exact hne.out
                  clear h4
                  have hP1 : 2 ≤ P := by omega
                  have q1 : decide (2 < P) = false := by simp; omega
                  have q2 : decide ((2 : Int) < (P : Int)) = false := by simp; omega
                  obtain ⟨J2, hJ2⟩ : ∃ J2, J2 = min 400 l.length := ⟨_, rfl⟩
                  have m1 : min (400 : Int) (l.length : Int) = (J2 : Int) := by omega
                  have m2 : (J2 : Int) ≤ (l.length : Int) := by omega
                  have m3 : J2 ≤ l.length := by omega
                  have m4 : J2 ≤ 400 := by omega
                  have m5 : 200 ≤ J2 := by have := HP.out; unfold pgN at this; split at this <;> omega
                  have m6 : (200 : Int) ≤ (J2 : Int) := by omega
                  have hpc : S.extract 200 J2 = str (part l 1) := by rw [HS.out]; exact part_code l 200 J2 1 rfl hJ2
                  have hpl := part_len l 1
                  have hkk : (part l 1).length = J2 - 200 := by omega
                  obtain ⟨T1, hT1⟩ : ∃ T1, T1 = S.extract 200 J2 := ⟨_, rfl⟩
                  have hs1 : T1.size = J2 - 200 := by rw [hT1, hpc, str_size, hkk]
                  have hbody : Hid (∀ Z : ByteArray, Z = str (zs (240 - (J2 - 200))) → T1 ++ Z = str (body l 1)) := Lib.hid fun Z hZ => by
                    rw [hT1, hpc, hZ, body, hkk]
                    apply ByteArray.ext
                    simp [ByteArray.data_append]
                  have hT2 := hT1.symm
                  have hnext : nextOf at' 1 = 0 := by
                    unfold nextOf
                    rw [if_neg (by have := Hn.out; omega)]
                  have Hnext := Lib.hid hnext
                  clear hJ2 hpl hkk hT1 hpc hnext m5
                  go_wp2_with fail
                  refine wp_region_held_drew (S := (fun W' => W'.cell? ⟨b, off + 1, none⟩ = some (.int .i64 g) ∧ W'.cell? ⟨b, off, none⟩ = some (.int .i64 g0) ∧ b < W'.heap.size)) (by kernel_rfl) (⟨hx, hxa, Nat.lt_of_lt_of_le hbl hbel.size⟩) (fun hHeld => ?_)
                  refine wpAnyH_take (i := 0) (v := ?_) rfl (by kernel_rfl) (by kernel_rfl) (by kernel_rfl) (fun _ _ _ h => h) (Or.inl ⟨by kernel_rfl, ?_⟩) hHeld ?_
                  rotate_left
                  · intro wq hSw
                    obtain ⟨s1, s2, s3⟩ := hSw
                    go_simp
                    try rw [if_neg (by omega)]
                    try rw [if_pos (by omega)]
                    try with_reducible rfl
                  try simp only [Act.put, List.getElem_toArray, List.getElem_cons_succ, List.getElem_cons_zero, List.setIfInBounds_toArray, List.set_cons_zero, List.set_cons_succ]
                  refine wpAnyH_take (i := 1) (v := ?_) rfl (by kernel_rfl) (by kernel_rfl) (by kernel_rfl) (fun _ _ _ h => h) (Or.inl ⟨by kernel_rfl, ?_⟩) hHeld ?_
                  rotate_left
                  · intro wq hSw
                    obtain ⟨s1, s2, s3⟩ := hSw
                    go_simp
                    try rw [if_neg (by omega)]
                    try rw [if_pos (by omega)]
                    try with_reducible rfl
                  try simp only [Act.put, List.getElem_toArray, List.getElem_cons_succ, List.getElem_cons_zero, List.setIfInBounds_toArray, List.set_cons_zero, List.set_cons_succ]
                  refine wpAnyH_take (i := 2) (v := ?_) rfl (by kernel_rfl) (by kernel_rfl) (by kernel_rfl) (fun _ _ _ h => h) (Or.inl ⟨by kernel_rfl, ?_⟩) hHeld ?_
                  rotate_left
                  · intro wq hSw
                    obtain ⟨s1, s2, s3⟩ := hSw
                    go_simp
                    try rw [if_neg (by omega)]
                    try rw [if_pos (by omega)]
                    try with_reducible rfl
                  try simp only [Act.put, List.getElem_toArray, List.getElem_cons_succ, List.getElem_cons_zero, List.setIfInBounds_toArray, List.set_cons_zero, List.set_cons_succ]
                  refine wpAnyH_take (i := 3) (v := ?_) rfl (by kernel_rfl) (by kernel_rfl) (by kernel_rfl) (fun _ _ _ h => h) (Or.inl ⟨by kernel_rfl, ?_⟩) hHeld ?_
                  rotate_left
                  · intro wq hSw
                    obtain ⟨s1, s2, s3⟩ := hSw
                    go_simp
                    try rw [if_neg (by omega)]
                    try rw [if_pos (by omega)]
                    try with_reducible rfl
                  try simp only [Act.put, List.getElem_toArray, List.getElem_cons_succ, List.getElem_cons_zero, List.setIfInBounds_toArray, List.set_cons_zero, List.set_cons_succ]
                  refine wpAnyH_take (i := 4) (v := ?_) rfl (by kernel_rfl) (by kernel_rfl) (by kernel_rfl) (fun _ _ _ h => h) (Or.inl ⟨by kernel_rfl, ?_⟩) hHeld ?_
                  rotate_left
                  · intro wq hSw
                    obtain ⟨s1, s2, s3⟩ := hSw
                    go_simp
                    try rw [if_neg (by omega)]
                    try rw [if_pos (by omega)]
                    try with_reducible rfl
                  try simp only [Act.put, List.getElem_toArray, List.getElem_cons_succ, List.getElem_cons_zero, List.setIfInBounds_toArray, List.set_cons_zero, List.set_cons_succ]
                  refine wpAnyH_take (i := 5) (v := ?_) rfl (by kernel_rfl) (by kernel_rfl) (by kernel_rfl) (fun _ _ _ h => h) (Or.inl ⟨by kernel_rfl, ?_⟩) hHeld ?_
                  rotate_left
                  · intro wq hSw
                    obtain ⟨s1, s2, s3⟩ := hSw
                    go_simp
                    try rw [if_neg (by omega)]
                    try rw [if_pos (by omega)]
                    try with_reducible rfl
                  try simp only [Act.put, List.getElem_toArray, List.getElem_cons_succ, List.getElem_cons_zero, List.setIfInBounds_toArray, List.set_cons_zero, List.set_cons_succ]
                  refine wpAnyH_take (i := 6) (v := ?_) rfl (by kernel_rfl) (by kernel_rfl) (by kernel_rfl) (fun _ _ _ h => h) (Or.inl ⟨by kernel_rfl, ?_⟩) hHeld ?_
                  rotate_left
                  · intro wq hSw
                    obtain ⟨s1, s2, s3⟩ := hSw
                    go_simp
                    try rw [if_neg (by omega)]
                    try rw [if_pos (by omega)]
                    try with_reducible rfl
                  try simp only [Act.put, List.getElem_toArray, List.getElem_cons_succ, List.getElem_cons_zero, List.setIfInBounds_toArray, List.set_cons_zero, List.set_cons_succ]
                  refine wpAnyH_take (i := 7) (v := ?_) rfl (by kernel_rfl) (by kernel_rfl) (by kernel_rfl) (fun _ _ _ h => h) (Or.inl ⟨by kernel_rfl, ?_⟩) hHeld ?_
                  rotate_left
                  · intro wq hSw
                    obtain ⟨s1, s2, s3⟩ := hSw
                    go_simp
                    try rw [if_neg (by omega)]
                    try rw [if_pos (by omega)]
                    try with_reducible rfl
                  try simp only [Act.put, List.getElem_toArray, List.getElem_cons_succ, List.getElem_cons_zero, List.setIfInBounds_toArray, List.set_cons_zero, List.set_cons_succ]
                  refine wpAnyH_take (i := 8) (v := ?_) rfl (by kernel_rfl) (by kernel_rfl) (by kernel_rfl) (fun _ _ _ h => h) (Or.inl ⟨by kernel_rfl, ?_⟩) hHeld ?_
                  rotate_left
                  · intro wq hSw
                    obtain ⟨s1, s2, s3⟩ := hSw
                    go_simp
                    try rw [if_neg (by omega)]
                    try rw [if_pos (by omega)]
                    try with_reducible rfl
                  try simp only [Act.put, List.getElem_toArray, List.getElem_cons_succ, List.getElem_cons_zero, List.setIfInBounds_toArray, List.set_cons_zero, List.set_cons_succ]
                  refine wpAnyH_take (i := 9) (v := ?_) rfl (by kernel_rfl) (by kernel_rfl) (by kernel_rfl) (fun _ _ _ h => h) (Or.inl ⟨by kernel_rfl, ?_⟩) hHeld ?_
                  rotate_left
                  · intro wq hSw
                    obtain ⟨s1, s2, s3⟩ := hSw
                    go_simp
                    try rw [if_neg (by omega)]
                    try rw [if_pos (by omega)]
                    try with_reducible rfl
                  try simp only [Act.put, List.getElem_toArray, List.getElem_cons_succ, List.getElem_cons_zero, List.setIfInBounds_toArray, List.set_cons_zero, List.set_cons_succ]
                  refine wpAnyH_take (i := 10) (v := ?_) rfl (by kernel_rfl) (by kernel_rfl) (by kernel_rfl) (fun _ _ _ h => h) (Or.inl ⟨by kernel_rfl, ?_⟩) hHeld ?_
                  rotate_left
                  · intro wq hSw
                    obtain ⟨s1, s2, s3⟩ := hSw
                    go_simp
                    try rw [if_neg (by omega)]
                    try rw [if_pos (by omega)]
                    try with_reducible rfl
                  try simp only [Act.put, List.getElem_toArray, List.getElem_cons_succ, List.getElem_cons_zero, List.setIfInBounds_toArray, List.set_cons_zero, List.set_cons_succ]
                  refine wpAnyH_take (i := 11) (v := ?_) rfl (by kernel_rfl) (by kernel_rfl) (by kernel_rfl) (fun _ _ _ h => h) (Or.inl ⟨by kernel_rfl, ?_⟩) hHeld ?_
                  rotate_left
                  · intro wq hSw
                    obtain ⟨s1, s2, s3⟩ := hSw
                    go_simp
                    try rw [if_neg (by omega)]
                    try rw [if_pos (by omega)]
                    try with_reducible rfl
                  try simp only [Act.put, List.getElem_toArray, List.getElem_cons_succ, List.getElem_cons_zero, List.setIfInBounds_toArray, List.set_cons_zero, List.set_cons_succ]
                  refine wpAnyH_take (i := 12) (v := ?_) rfl (by kernel_rfl) (by kernel_rfl) (by kernel_rfl) (fun _ _ _ h => h) (Or.inl ⟨by kernel_rfl, ?_⟩) hHeld ?_
                  rotate_left
                  · intro wq hSw
                    obtain ⟨s1, s2, s3⟩ := hSw
                    go_simp
                    try rw [if_neg (by omega)]
                    try rw [if_pos (by omega)]
                    try with_reducible rfl
                  try simp only [Act.put, List.getElem_toArray, List.getElem_cons_succ, List.getElem_cons_zero, List.setIfInBounds_toArray, List.set_cons_zero, List.set_cons_succ]
                  refine wpAnyH_take (i := 13) (v := ?_) rfl (by kernel_rfl) (by kernel_rfl) (by kernel_rfl) (fun _ _ _ h => h) (Or.inl ⟨by kernel_rfl, ?_⟩) hHeld ?_
                  rotate_left
                  · intro wq hSw
                    obtain ⟨s1, s2, s3⟩ := hSw
                    go_simp
                    try rw [if_neg (by omega)]
                    try rw [if_pos (by omega)]
                    try with_reducible rfl
                  try simp only [Act.put, List.getElem_toArray, List.getElem_cons_succ, List.getElem_cons_zero, List.setIfInBounds_toArray, List.set_cons_zero, List.set_cons_succ]
                  refine wpAnyH_take (i := 14) (v := ?_) rfl (by kernel_rfl) (by kernel_rfl) (by kernel_rfl) (fun _ _ _ h => h) (Or.inl ⟨by kernel_rfl, ?_⟩) hHeld ?_
                  rotate_left
                  · intro wq hSw
                    obtain ⟨s1, s2, s3⟩ := hSw
                    go_simp
                    try rw [if_neg (by omega)]
                    try rw [if_pos (by omega)]
                    try with_reducible rfl
                  try simp only [Act.put, List.getElem_toArray, List.getElem_cons_succ, List.getElem_cons_zero, List.setIfInBounds_toArray, List.set_cons_zero, List.set_cons_succ]
                  refine wpAnyH_take (i := 15) (v := ?_) rfl (by kernel_rfl) (by kernel_rfl) (by kernel_rfl) (fun _ _ _ h => h) (Or.inl ⟨by kernel_rfl, ?_⟩) hHeld ?_
                  rotate_left
                  · intro wq hSw
                    obtain ⟨s1, s2, s3⟩ := hSw
                    go_simp
                    try rw [if_neg (by omega)]
                    try rw [if_pos (by omega)]
                    try with_reducible rfl
                  try simp only [Act.put, List.getElem_toArray, List.getElem_cons_succ, List.getElem_cons_zero, List.setIfInBounds_toArray, List.set_cons_zero, List.set_cons_succ]
                  refine wpAnyH_take (i := 16) (v := ?_) rfl (by kernel_rfl) (by kernel_rfl) (by kernel_rfl) (fun _ _ _ h => h) (Or.inl ⟨by kernel_rfl, ?_⟩) hHeld ?_
                  rotate_left
                  · intro wq hSw
                    obtain ⟨s1, s2, s3⟩ := hSw
                    go_simp
                    try rw [if_neg (by omega)]
                    try rw [if_pos (by omega)]
                    try with_reducible rfl
                  try simp only [Act.put, List.getElem_toArray, List.getElem_cons_succ, List.getElem_cons_zero, List.setIfInBounds_toArray, List.set_cons_zero, List.set_cons_succ]
                  refine wpAnyH_take (i := 17) (v := ?_) rfl (by kernel_rfl) (by kernel_rfl) (by kernel_rfl) (fun _ _ _ h => h) (Or.inl ⟨by kernel_rfl, ?_⟩) hHeld ?_
                  rotate_left
                  · intro wq hSw
                    obtain ⟨s1, s2, s3⟩ := hSw
                    go_simp
                    try rw [if_neg (by omega)]
                    try rw [if_pos (by omega)]
                    try with_reducible rfl
                  try simp only [Act.put, List.getElem_toArray, List.getElem_cons_succ, List.getElem_cons_zero, List.setIfInBounds_toArray, List.set_cons_zero, List.set_cons_succ]
                  refine wpAnyH_take (i := 18) (v := ?_) rfl (by kernel_rfl) (by kernel_rfl) (by kernel_rfl) (fun _ _ _ h => h) (Or.inl ⟨by kernel_rfl, ?_⟩) hHeld ?_
                  rotate_left
                  · intro wq hSw
                    obtain ⟨s1, s2, s3⟩ := hSw
                    go_simp
                    try rw [if_neg (by omega)]
                    try rw [if_pos (by omega)]
                    try with_reducible rfl
                  try simp only [Act.put, List.getElem_toArray, List.getElem_cons_succ, List.getElem_cons_zero, List.setIfInBounds_toArray, List.set_cons_zero, List.set_cons_succ]
                  refine wpAnyH_take (i := 19) (v := ?_) rfl (by kernel_rfl) (by kernel_rfl) (by kernel_rfl) (fun _ _ _ h => h) (Or.inl ⟨by kernel_rfl, ?_⟩) hHeld ?_
                  rotate_left
                  · intro wq hSw
                    obtain ⟨s1, s2, s3⟩ := hSw
                    go_simp
                    try rw [if_neg (by omega)]
                    try rw [if_pos (by omega)]
                    try with_reducible rfl
                  try simp only [Act.put, List.getElem_toArray, List.getElem_cons_succ, List.getElem_cons_zero, List.setIfInBounds_toArray, List.set_cons_zero, List.set_cons_succ]
                  refine wpAnyH_take (i := 20) (v := ?_) rfl (by kernel_rfl) (by kernel_rfl) (by kernel_rfl) (fun _ _ _ h => h) (Or.inl ⟨by kernel_rfl, ?_⟩) hHeld ?_
                  rotate_left
                  · intro wq hSw
                    obtain ⟨s1, s2, s3⟩ := hSw
                    go_simp
                    try rw [if_neg (by omega)]
                    try rw [if_pos (by omega)]
                    try with_reducible rfl
                  try simp only [Act.put, List.getElem_toArray, List.getElem_cons_succ, List.getElem_cons_zero, List.setIfInBounds_toArray, List.set_cons_zero, List.set_cons_succ]
                  refine wpAnyH_take (i := 21) (v := ?_) rfl (by kernel_rfl) (by kernel_rfl) (by kernel_rfl) (fun _ _ _ h => h) (Or.inl ⟨by kernel_rfl, ?_⟩) hHeld ?_
                  rotate_left
                  · intro wq hSw
                    obtain ⟨s1, s2, s3⟩ := hSw
                    go_simp
                    try rw [if_neg (by omega)]
                    try rw [if_pos (by omega)]
                    try with_reducible rfl
                  try simp only [Act.put, List.getElem_toArray, List.getElem_cons_succ, List.getElem_cons_zero, List.setIfInBounds_toArray, List.set_cons_zero, List.set_cons_succ]
                  refine wpAnyH_take (i := 22) (v := ?_) rfl (by kernel_rfl) (by kernel_rfl) (by kernel_rfl) (fun _ _ _ h => h) (Or.inl ⟨by kernel_rfl, ?_⟩) hHeld ?_
                  rotate_left
                  · intro wq hSw
                    obtain ⟨s1, s2, s3⟩ := hSw
                    go_simp
                    try rw [if_neg (by omega)]
                    try rw [if_pos (by omega)]
                    try with_reducible rfl
                  try simp only [Act.put, List.getElem_toArray, List.getElem_cons_succ, List.getElem_cons_zero, List.setIfInBounds_toArray, List.set_cons_zero, List.set_cons_succ]
                  refine wpAnyH_take (i := 23) (v := ?_) rfl (by kernel_rfl) (by kernel_rfl) (by kernel_rfl) (fun _ _ _ h => h) (Or.inl ⟨by kernel_rfl, ?_⟩) hHeld ?_
                  rotate_left
                  · intro wq hSw
                    obtain ⟨s1, s2, s3⟩ := hSw
                    go_simp
                    try rw [if_neg (by omega)]
                    try rw [if_pos (by omega)]
                    try with_reducible rfl
                  try simp only [Act.put, List.getElem_toArray, List.getElem_cons_succ, List.getElem_cons_zero, List.setIfInBounds_toArray, List.set_cons_zero, List.set_cons_succ]
                  refine wpAnyH_take (i := 24) (v := ?_) rfl (by kernel_rfl) (by kernel_rfl) (by kernel_rfl) (fun _ _ _ h => h) (Or.inl ⟨by kernel_rfl, ?_⟩) hHeld ?_
                  rotate_left
                  · intro wq hSw
                    obtain ⟨s1, s2, s3⟩ := hSw
                    go_simp
                    try rw [if_neg (by omega)]
                    try rw [if_pos (by omega)]
                    try with_reducible rfl
                  try simp only [Act.put, List.getElem_toArray, List.getElem_cons_succ, List.getElem_cons_zero, List.setIfInBounds_toArray, List.set_cons_zero, List.set_cons_succ]
                  refine wpAnyH_done (by kernel_rfl) ?_ _
                  clear hHeld
                  go_wp2_with fail
                  ((with_reducible refine (refZerosI_any _ (240 - (J2 - 200)) _ (by omega) (by omega)).mono ?_); rintro e w3 ⟨rfl, hb3⟩)
                  have hbw3 := below_tr (below_dr hbel) hb3
                  have hown3 := own_below hown.drew hb3
                  have hbl3 : b < w3.heap.size := Nat.lt_of_lt_of_le hbl hbw3.size
                  skip
                  obtain ⟨Z, hZ⟩ : ∃ Z, Z = str (zs (240 - (J2 - 200))) := ⟨_, rfl⟩
                  rw [← hZ]
                  have HB := Lib.hid (hbody.out Z hZ)
                  have hzs : Z.size = 240 - (J2 - 200) := by rw [hZ, str_size]; exact List.length_replicate
                  clear hb3 hZ hown hbel hx hxa
                  go_wp2_with (at_builtin; refine wpList_append_own _ rfl (.tmp 81) (.tmp 83) _ rfl w2.heap.size 26 i0 (.agg #[.int .i64 0, .int .i64 0, .int .i64 0, .string ⟨#[]⟩]) 4 40 Tryz.underlying23 hi hz0 hz1 hz2 rfl (by decide) _ 1 (rows l at' 1) rfl ((hown3.alloc _).alloc _) ⟨w3.heap.size + 1, 0, none⟩ 1 1 [.int .i64 5, .int .i64 0, .int .i64 0, .string (T1 ++ Z)] rfl rfl (cells_new _ _ (by simp) _ _) (by intro u hu; simp at hu; rcases hu with rfl | rfl | rfl | rfl <;> rfl) (by unfold maxLen; omega) (by omega) (by have := hbw3.size; simp; omega) ?_; intro v' w4 hown4 hgrow _)
                  go_roundw
                  case rel =>
                    refine ⟨1 + 1, by go_num, by omega, ?_, ?_, Lib.hid (fun i hi => ?_)⟩
                    · rw [rows, pgRow, ← HB.out, Hnext.out]
                      exact hown4
                    · exact below_grown (below_al (below_al hbw3 _) _) (by have := hbw3.size; simp; omega) hown3 hgrow
                    · rcases Nat.lt_or_eq_of_le (Nat.le_of_lt_succ hi) with h | h
                      · exact hoks.out i h
                      · rw [h]; exact hOk.out
                  case measure => simp [intOf]; omega
        · obtain rfl : j = P := by omega
          go_wp2_with fail
          go_ret2
          refine .inl ⟨⟨by have := Hn.out; have := H0.out; omega, by have := Hn.out; have := HP.out; omega, fun i hi => hoks.out i (by have := Hn.out; omega)⟩, _, rfl, by rw [Hn.out]; exact hown, hbel⟩
    · have Hno : Hid (¬ PutOk l at') := Lib.hid fun h => by have := h.2.1; have := HP.out; have := Hn.out; omega
      have d1 : ((P : Int) != (n : Int)) = true := by simp; omega
      go_enter Tryz.func7, Tryz.ntmps7
      go_wp2_with fail
      refine (Hpg.out _).mono ?_
      rintro e w1 ⟨rfl, rfl⟩
      go_wp2_with fail
      refine (Hpg.out _).mono ?_
      rintro e w2 ⟨rfl, rfl⟩
      go_wp2_with fail
      go_ret2
      exact .inr ⟨Hno.out, rfl, Below.refl _ _⟩
end Go.Proofs.YtghbgajapdkofaaGreatDoor.Bl
