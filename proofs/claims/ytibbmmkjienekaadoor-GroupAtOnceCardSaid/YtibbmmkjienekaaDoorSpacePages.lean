/- The contract of space.Pages: how many pages a map has. -/
import Derived.Test.YtibbmmkjienekaaDoorSpacePure
import Derived.Test.YtibbmmkjienekaaDoorSpaceSet
namespace Go.Proofs.YtibbmmkjienekaaDoor.Sp
open Go.RowKit Go.Proofs.YtibbmmkjienekaaDoor.Mem Go.Proofs.YtibbmmkjienekaaDoor.Pg

theorem str_bt (l : List UInt8) (i : Nat) (h : i < (str l).size) : (((str l)[i]'h).toNat : Int) = bt l i := by
  have h' : i < l.length := by rw [← str_size l]; exact h
  unfold bt
  rw [List.getD_eq_getElem?_getD, List.getElem?_eq_getElem h', Option.getD_some]
  rfl

set_option maxRecDepth 100000 in
set_option maxHeartbeats 4000000 in
theorem pages_any (k d x : Int) (l : List UInt8) (w : World) (hl : l.length ≤ 1000000) :
    Calls Tryd.prog 41 #[.agg #[.int .i64 k, .int .i64 d, .int .i64 x, .string (str l)]] w fun e w' =>
      e = .returned (.int .i64 (pagesF k l)) ∧ Below w.heap.size w w' := by
  obtain ⟨s, hs⟩ : ∃ s, s = str l := ⟨_, rfl⟩
  rw [← hs]
  have hss : s.size = l.length := by rw [hs, str_size]
  have hsl : s.size ≤ 1000000 := by omega
  have htl : s.data.toList = l := by rw [hs]
  have htr := fun (w : World) => Tryd.strings_TrimRight_one s 0 (by decide) w (by omega)
  rw [htl] at htr
  have Hss := Lib.hid hss
  clear hs hss htl
  by_cases hk : k = 2
  · by_cases h240 : s.size = 240
    · have hk' : (k != 2) = false := by simpa using hk
      have h240' : ((s.size : Int) != 240) = false := by simp; omega
      obtain ⟨t, ht⟩ : ∃ t, t = Lib.trimRightB l 0 := ⟨_, rfl⟩
      obtain ⟨r, hr⟩ : ∃ r, r = str t := ⟨_, rfl⟩
      have htr' : ∀ w, Calls Tryd.prog 58 #[.string s, .string ⟨#[0]⟩] w fun e w' => e = .returned (.string r) ∧ w' = w := by
        rw [hr, ht]; exact htr
      have hrs : r.size = t.length := by rw [hr, str_size]
      have hbt : ∀ (i : Nat) (h : i < r.size), ((r[i]'h).toNat : Int) = bt t i := by rw [hr]; exact str_bt t
      have hpf : pagesF k l = if 8 ≤ t.length ∧ t.length ≤ 64 ∧ bt t 0 = 1 ∧ bt t 1 = 1 ∧ t.all okB = true then t.length else 0 := by
        unfold pagesF
        rw [if_pos ⟨hk, by rw [← Hss.out]; exact h240⟩, ht]
      have Hpf := Lib.hid hpf
      have Hrs := Lib.hid hrs
      have Hk := Lib.hid hk
      have H240 := Lib.hid h240
      clear hr ht htr hpf hrs hk h240
      by_cases h8 : 8 ≤ r.size
      · have d8 : decide (r.size < 8) = false := by simp; omega
        have d8' : decide ((r.size : Int) < 8) = false := by simp; omega
        by_cases h64 : r.size ≤ 64
        · have b0 := hbt 0 (by omega)
          have b1 := hbt 1 (by omega)
          have d64 : decide (64 < r.size) = false := by simp; omega
          have d64' : decide ((64 : Int) < (r.size : Int)) = false := by simp; omega
          have i0 : (0 : Int) < (r.size : Int) := by omega
          have i1 : (1 : Int) < (r.size : Int) := by omega
          by_cases e0 : bt t 0 = 1
          · have e0' : (bt t 0 != 1) = false := by simpa using e0
            have E0 := Lib.hid e0
            clear e0
            by_cases e1 : bt t 1 = 1
            · have e1' : (bt t 1 != 1) = false := by simpa using e1
              have E1 := Lib.hid e1
              have Hbt := Lib.hid hbt
              clear e1 hbt
              go_enter Tryd.func41, Tryd.ntmps41
              go_wp2_with (go_at_call 58; refine (htr' _).mono ?_; rintro e w1 ⟨rfl, rfl⟩)
              clear b0 b1 e0' e1' i0 i1 d8 d8' d64 d64'
              go_loopw [37] (fun i wr => ∃ j : Nat, i = .int .i64 j ∧ j ≤ r.size ∧ OkTo t j ∧ Below w.heap.size w wr) (fun i _ => r.size - (intOf i).toNat)
              case atStart => exact ⟨0, rfl, Nat.zero_le _, fun j hj => absurd hj (by omega), below_al (Below.refl _ _) _⟩
              case round =>
                obtain ⟨j, rfl, hj, hok, hbel⟩ := hrel
                have Hok := Lib.hid hok
                clear hok
                by_cases hlt : j < r.size
                · have hb := Hbt.out j hlt
                  by_cases c1 : bt t j = 1
                  · have c1' : (bt t j != 1) = false := by simpa using c1
                    have C := Lib.hid c1
                    clear c1
                    go_wp2
                    go_roundw
                    case rel => exact ⟨j + 1, by go_num, by omega, Hok.out.succ (.inl C.out), hbel⟩
                    case measure => simp [intOf]; omega
                  · have c1' : (bt t j != 1) = true := by simpa using c1
                    have C1 := Lib.hid c1
                    clear c1
                    by_cases c2 : bt t j = 2
                    · have c2' : (bt t j != 2) = false := by simpa using c2
                      have C := Lib.hid c2
                      clear c2
                      go_wp2
                      go_roundw
                      case rel => exact ⟨j + 1, by go_num, by omega, Hok.out.succ (.inr C.out), hbel⟩
                      case measure => simp [intOf]; omega
                    · have c2' : (bt t j != 2) = true := by simpa using c2
                      have C2 := Lib.hid c2
                      clear c2
                      go_wp2
                      go_ret
                      refine ⟨?_, hbel⟩
                      rw [Hpf.out, if_neg (fun h => ?_)]
                      · rfl
                      · rcases (okTo_all t).2 h.2.2.2.2 j (by rw [← Hrs.out]; exact hlt) with h1 | h1
                        · exact C1.out h1
                        · exact C2.out h1
                · obtain rfl : j = r.size := by omega
                  go_wp2
                  go_ret
                  refine ⟨?_, hbel⟩
                  rw [Hpf.out, if_pos ⟨by rw [← Hrs.out]; exact h8, by rw [← Hrs.out]; exact h64, E0.out, E1.out, (okTo_all t).1 (by rw [← Hrs.out]; exact Hok.out)⟩, ← Hrs.out]
                  rfl
            · have e1' : (bt t 1 != 1) = true := by simpa using e1
              have E1 := Lib.hid e1
              clear e1
              go_enter Tryd.func41, Tryd.ntmps41
              go_wp2_with (go_at_call 58; refine (htr' _).mono ?_; rintro e w1 ⟨rfl, rfl⟩)
              go_ret
              exact ⟨by rw [Hpf.out, if_neg (fun h => E1.out h.2.2.2.1)]; rfl, below_al (Below.refl _ _) _⟩
          · have e0' : (bt t 0 != 1) = true := by simpa using e0
            have E0 := Lib.hid e0
            clear e0
            go_enter Tryd.func41, Tryd.ntmps41
            go_wp2_with (go_at_call 58; refine (htr' _).mono ?_; rintro e w1 ⟨rfl, rfl⟩)
            go_ret
            exact ⟨by rw [Hpf.out, if_neg (fun h => E0.out h.2.2.1)]; rfl, below_al (Below.refl _ _) _⟩
        · have d64 : decide (64 < r.size) = true := by simp; omega
          have d64' : decide ((64 : Int) < (r.size : Int)) = true := by simp; omega
          go_enter Tryd.func41, Tryd.ntmps41
          go_wp2_with (go_at_call 58; refine (htr' _).mono ?_; rintro e w1 ⟨rfl, rfl⟩)
          go_ret
          exact ⟨by rw [Hpf.out, if_neg (fun h => h64 (by rw [Hrs.out]; exact h.2.1))]; rfl, below_al (Below.refl _ _) _⟩
      · have d8 : decide (r.size < 8) = true := by simp; omega
        have d8' : decide ((r.size : Int) < 8) = true := by simp; omega
        go_enter Tryd.func41, Tryd.ntmps41
        go_wp2_with (go_at_call 58; refine (htr' _).mono ?_; rintro e w1 ⟨rfl, rfl⟩)
        go_ret
        exact ⟨by rw [Hpf.out, if_neg (fun h => h8 (by rw [Hrs.out]; exact h.1))]; rfl, below_al (Below.refl _ _) _⟩
    · have h240' : ((s.size : Int) != 240) = true := by simp; omega
      have hpf : pagesF k l = 0 := by unfold pagesF; rw [if_neg (fun h => h240 (by rw [Hss.out]; exact h.2))]
      have hk' : (k != 2) = false := by simpa using hk
      clear hk
      go_enter Tryd.func41, Tryd.ntmps41
      go_wp2
      go_ret
      exact ⟨by rw [hpf]; rfl, below_al (Below.refl _ _) _⟩
  · have hk' : (k != 2) = true := by simpa using hk
    have hpf : pagesF k l = 0 := by unfold pagesF; rw [if_neg (fun h => hk h.1)]
    go_enter Tryd.func41, Tryd.ntmps41
    go_wp2
    go_ret
    exact ⟨by rw [hpf]; rfl, below_al (Below.refl _ _) _⟩
end Go.Proofs.YtibbmmkjienekaaDoor.Sp
