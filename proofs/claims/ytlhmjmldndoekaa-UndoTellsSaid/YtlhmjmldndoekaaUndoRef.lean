/- The contract of the reference's Steps. -/
import Derived.Test.YtlhmjmldndoekaaUndoParts
namespace Go.Proofs.Ytlhmjmldndoekaa.Undo
open Go.RowKit Go.Proofs.Ytlhmjmldndoekaa.Mem

theorem post_none2 {w w' : World} {nx : Int → Option (Int × Bool)} {m last lsn : Int} {acc : List Int} (h : all nx m last = (all nx m lsn).map (acc ++ ·)) (hn : all nx m lsn = none)
    (hb : Below w.heap.size w w') : StepsPost w.heap.size w (all nx m last) (.returned (.tuple #[.slice none 0 0, .bool false])) w' := by
  refine ⟨hb, hb.size, ?_⟩
  rw [h, hn]
  rfl

set_option maxRecDepth 100000 in
set_option maxHeartbeats 4000000 in
theorem ref_any (A : Option Addr) (len cap : Nat) (K P N : Nat → Int) (last down : Int) (w : World) (hr : Recs w A len K P N) (hl : len ≤ 1000000) :
    Calls Try.prog 10 #[.slice A len cap, .int .i64 last, .int .i64 down] w (StepsPost w.heap.size w (all (nxt len K P N) (max down 0) last)) := by
  obtain ⟨i0, hi, hz0, hz1, hz2⟩ := info_parts info_int
  have Hr := Lib.hid hr
  clear hr
  go_enter Try.func10, Try.ntmps10
  go_wp2
  go_loopw [8, 1] (fun v i wr => StepsRel w.heap.size w (nxt len K P N) len (max down 0) last v i wr) (fun _ i _ => (intOf i).toNat)
  case atStart => exact ⟨last, [], rfl, Int.le_refl _, World.ownsRow_nil _ _ _ _, Below.refl _ _, Nat.le_refl _, by simp, .inl rfl⟩
  case round =>
    obtain ⟨lsn, acc, rfl, hle, hown, hbel, hsz, hall, hcnt⟩ := hrel
    have Hall := Lib.hid hall
    have Hcnt := Lib.hid hcnt
    clear hall hcnt
    by_cases hm : (if down < 0 then 0 else down) < lsn
    · have hm' : max down 0 < lsn := by split at hm <;> omega
      have h0 : 0 < lsn := by omega
      obtain ⟨i, rfl⟩ : ∃ i : Nat, lsn = (i : Int) + 1 := ⟨(lsn - 1).toNat, by omega⟩
      by_cases hin : i < len
      · obtain ⟨b, off, rfl, hrec⟩ := (Hr.out.below hbel) (by omega)
        have hri := hrec i hin
        have hbl := hri.lt
        obtain ⟨tx, s4, b5, s6, s7, x8, x9, a10, n10, m10, a11, n11, m11, a12, n12, m12, a13, n13, m13, g0, g1, g2, g3, g4, g5, g6, g7, g8, g9, g10, g11, g12, g13⟩ := hri
        have hK : ∃ q s y, onF (K i) (P i) (N i) = (q, s, y) := ⟨_, _, _, rfl⟩
        obtain ⟨q, s, y, hon⟩ := hK
        have Hon := Lib.hid hon
        have hal : acc.length ≤ len := by rcases Hcnt.out with h | h; (subst h; simp); omega
        have i1 : (i : Int) + 1 - 1 = (i : Int) := by omega
        clear hrec
        unfold onF at hon
        by_cases k1 : K i = 1
        · rw [if_pos k1] at hon
          rw [k1] at g0
          clear k1
          injection hon with e1 e2
          injection e2 with e2 e3
          subst e1
          subst e2
          subst e3
          by_cases hq : P i < (i : Int) + 1
          · go_wp2_with (at_builtin; refine wpList_append_own _ rfl (.tmp 30) (.tmp 32) _ rfl w.heap.size 3 i0 (.int .i64 0) 1 8 Try.underlying27 hi hz0 hz1 hz2 rfl (by decide) _ acc.length (ints acc) rfl ((hown.alloc _).alloc _) ⟨wr.heap.size + 1, 0, none⟩ 1 1 [.int .i64 ((i : Int) + 1)] rfl rfl (cells_new _ _ (by simp) [.int .i64 ((i : Int) + 1)] _) (by intro u hu; simp at hu; subst hu; rfl) (by unfold maxLen; omega) (by omega) (by simp; omega) ?_; intro v' w3 hown' hgrow _)
            all_goals exact ⟨rel_step hin hm' hle hq Hon.out hown hbel hsz Hall.out Hcnt.out (below_al (below_al (Below.refl _ wr) _) _) hgrow hown', by simp [intOf]; omega⟩
          · go_wp2_with (at_builtin; refine wpList_append_own _ rfl (.tmp 30) (.tmp 32) _ rfl w.heap.size 3 i0 (.int .i64 0) 1 8 Try.underlying27 hi hz0 hz1 hz2 rfl (by decide) _ acc.length (ints acc) rfl ((hown.alloc _).alloc _) ⟨wr.heap.size + 1, 0, none⟩ 1 1 [.int .i64 ((i : Int) + 1)] rfl rfl (cells_new _ _ (by simp) [.int .i64 ((i : Int) + 1)] _) (by intro u hu; simp at hu; subst hu; rfl) (by unfold maxLen; omega) (by omega) (by simp; omega) ?_; intro v' w3 hown' hgrow _)
            all_goals go_ret2
            all_goals exact post_none2 Hall.out (all_bad hm' (by rw [nxt_at hin Hon.out, if_neg (by omega)])) (below_grown (below_al (below_al hbel _) _) (by simp; omega) hown hgrow)
        · rw [if_neg k1] at hon
          have k1' : (K i == 1) = false := by simpa using k1
          by_cases k2 : K i = 2
          · rw [if_pos k2] at hon
            rw [k2] at g0
            injection hon with e1 e2
            injection e2 with e2 e3
            subst e1
            subst e2
            subst e3
            by_cases hq : N i < (i : Int) + 1
            · go_wp2_with fail
              all_goals exact ⟨rel_on hin hm' hle hq Hon.out hown hbel hsz Hall.out Hcnt.out (below_al (Below.refl _ wr) _), by simp [intOf]; omega⟩
            · go_wp2_with fail
              all_goals go_ret2
              all_goals exact post_none Hall.out (all_bad hm' (by rw [nxt_at hin Hon.out, if_neg (by omega)])) hbel hsz (below_al (Below.refl _ wr) _)
          · rw [if_neg k2] at hon
            have k2' : (K i == 2) = false := by simpa using k2
            by_cases k3 : K i = 6 ∨ K i = 4
            · rw [if_pos k3] at hon
              injection hon with e1 e2
              injection e2 with e2 e3
              subst e1
              subst e2
              subst e3
              by_cases hq : P i < (i : Int) + 1
              · rcases k3 with k3 | k3
                · rw [k3] at g0
                  go_wp2_with fail
                  all_goals exact ⟨rel_on hin hm' hle hq Hon.out hown hbel hsz Hall.out Hcnt.out (below_al (Below.refl _ wr) _), by simp [intOf]; omega⟩
                · rw [k3] at g0
                  go_wp2_with fail
                  all_goals exact ⟨rel_on hin hm' hle hq Hon.out hown hbel hsz Hall.out Hcnt.out (below_al (Below.refl _ wr) _), by simp [intOf]; omega⟩
              · rcases k3 with k3 | k3
                · rw [k3] at g0
                  go_wp2_with fail
                  all_goals go_ret2
                  all_goals exact post_none Hall.out (all_bad hm' (by rw [nxt_at hin Hon.out, if_neg (by omega)])) hbel hsz (below_al (Below.refl _ wr) _)
                · rw [k3] at g0
                  go_wp2_with fail
                  all_goals go_ret2
                  all_goals exact post_none Hall.out (all_bad hm' (by rw [nxt_at hin Hon.out, if_neg (by omega)])) hbel hsz (below_al (Below.refl _ wr) _)
            · rw [if_neg k3] at hon
              have k3a : (K i == 6) = false := by simp; omega
              have k3b : (K i == 4) = false := by simp; omega
              injection hon with e1 e2
              injection e2 with e2 e3
              subst e1
              subst e2
              subst e3
              clear k3
              go_wp2_with fail
              all_goals go_ret2
              all_goals exact post_none Hall.out (all_bad hm' (by rw [nxt_at hin Hon.out, if_neg (by simp)])) hbel hsz (below_al (Below.refl _ wr) _)
      · go_wp2_with fail
        all_goals go_ret2
        all_goals exact post_none Hall.out (all_bad hm' (nxt_out hin)) hbel hsz (Below.refl _ _)
    · go_wp2_with fail
      all_goals go_ret2
      all_goals exact post_some Hall.out (all_stop _ _ _ (by split at hm <;> omega)) hbel hsz hown
end Go.Proofs.Ytlhmjmldndoekaa.Undo
