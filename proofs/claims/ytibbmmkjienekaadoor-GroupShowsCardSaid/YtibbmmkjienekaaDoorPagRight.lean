/- The contract of the reference's PageRight. (Printed by tools/gen_ge.py.) -/
import Derived.Test.YtibbmmkjienekaaDoorPagGet
namespace Go.Proofs.YtibbmmkjienekaaDoor.Gr
open Go.RowKit Go.Proofs.YtibbmmkjienekaaDoor.Mem Go.Proofs.YtibbmmkjienekaaDoor.Pg Go.Proofs.YtibbmmkjienekaaDoor.Kp
set_option linter.unusedSimpArgs false
set_option linter.unusedVariables false
theorem Pag.ok_iff (k d x : Int) (l : List UInt8) : Pag.ok ⟨k, d, x, l⟩ ↔ 0 ≤ k ∧ k ≤ 5 ∧ 0 ≤ d ∧ d ≤ 5 ∧ 0 ≤ x ∧ x < 64 ∧ l.length = 240 := by
  unfold Pag.ok
  simp only
  omega
set_option maxRecDepth 100000 in
set_option maxHeartbeats 2000000 in
theorem right_page (p : Pag) (w : World) :
    Calls Tryd.prog 13 #[p.v] w fun e w' => e = .returned (.bool (decide p.ok)) ∧ Below w.heap.size w w' := by
  obtain ⟨k, d, x, l⟩ := p
  have hsz : (str l).size = l.length := str_size l
  have hiff := Pag.ok_iff k d x l
  simp only [Pag.v]
  obtain ⟨S, hS⟩ : ∃ S, S = str l := ⟨_, rfl⟩
  rw [← hS] at hsz ⊢
  have hc := blk_cell (heap_alloc_new w (.cells #[.int .i64 k, .int .i64 d, .int .i64 x, .string S] 23))
  have hb := below_al (Below.refl _ w) (.cells #[.int .i64 k, .int .i64 d, .int .i64 x, .string S] 23)
  clear hS
  by_cases h0 : 0 ≤ k
  · have e0 : decide (0 ≤ k) = true := by simpa using h0
    by_cases h1 : k ≤ 5
    · have e1 : decide (k ≤ 5) = true := by simpa using h1
      by_cases h2 : 0 ≤ d
      · have e2 : decide (0 ≤ d) = true := by simpa using h2
        by_cases h3 : d ≤ 5
        · have e3 : decide (d ≤ 5) = true := by simpa using h3
          by_cases h4 : 0 ≤ x
          · have e4 : decide (0 ≤ x) = true := by simpa using h4
            by_cases h5 : x < 64
            · have e5 : decide (x < 64) = true := by simpa using h5
              by_cases h6 : l.length = 240
              · have e6 : ((S.size : Int) == 240) = true := by rw [hsz]; simp; omega
                rw [decide_eq_true (hiff.2 ⟨h0, h1, h2, h3, h4, h5, h6⟩)]
                clear hiff h0 h1 h2 h3 h4 h5 h6 hsz
                go_enter Tryd.func13, Tryd.ntmps13
                go_wp2_with fail
                go_ret
                exact ⟨rfl, hb⟩
              · have e6 : ((S.size : Int) == 240) = false := by rw [hsz]; simp; omega
                rw [decide_eq_false (fun h => h6 (hiff.1 h).2.2.2.2.2.2)]
                clear hiff h0 h1 h2 h3 h4 h5 h6 hsz
                go_enter Tryd.func13, Tryd.ntmps13
                go_wp2_with fail
                go_ret
                exact ⟨rfl, hb⟩
            · have e5 : decide (x < 64) = false := by simpa using h5
              rw [decide_eq_false (fun h => h5 (hiff.1 h).2.2.2.2.2.1)]
              clear hiff hsz h0 h1 h2 h3 h4 h5
              go_enter Tryd.func13, Tryd.ntmps13
              go_wp2_with fail
              go_ret
              exact ⟨rfl, hb⟩
          · have e4 : decide (0 ≤ x) = false := by simpa using h4
            rw [decide_eq_false (fun h => h4 (hiff.1 h).2.2.2.2.1)]
            clear hiff hsz h0 h1 h2 h3 h4
            go_enter Tryd.func13, Tryd.ntmps13
            go_wp2_with fail
            go_ret
            exact ⟨rfl, hb⟩
        · have e3 : decide (d ≤ 5) = false := by simpa using h3
          rw [decide_eq_false (fun h => h3 (hiff.1 h).2.2.2.1)]
          clear hiff hsz h0 h1 h2 h3
          go_enter Tryd.func13, Tryd.ntmps13
          go_wp2_with fail
          go_ret
          exact ⟨rfl, hb⟩
      · have e2 : decide (0 ≤ d) = false := by simpa using h2
        rw [decide_eq_false (fun h => h2 (hiff.1 h).2.2.1)]
        clear hiff hsz h0 h1 h2
        go_enter Tryd.func13, Tryd.ntmps13
        go_wp2_with fail
        go_ret
        exact ⟨rfl, hb⟩
    · have e1 : decide (k ≤ 5) = false := by simpa using h1
      rw [decide_eq_false (fun h => h1 (hiff.1 h).2.1)]
      clear hiff hsz h0 h1
      go_enter Tryd.func13, Tryd.ntmps13
      go_wp2_with fail
      go_ret
      exact ⟨rfl, hb⟩
  · have e0 : decide (0 ≤ k) = false := by simpa using h0
    rw [decide_eq_false (fun h => h0 (hiff.1 h).1)]
    clear hiff hsz h0
    go_enter Tryd.func13, Tryd.ntmps13
    go_wp2_with fail
    go_ret
    exact ⟨rfl, hb⟩
end Go.Proofs.YtibbmmkjienekaaDoor.Gr
