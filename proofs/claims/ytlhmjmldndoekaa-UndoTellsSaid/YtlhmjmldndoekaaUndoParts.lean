/- The law UndoParts: its walk. -/
import Derived.Test.YtlhmjmldndoekaaUndoLog
namespace Go.Proofs.Ytlhmjmldndoekaa.Undo
open Go.RowKit Go.Proofs.Ytlhmjmldndoekaa.Mem

/-- A slice of records that came in. -/
def Recs (w : World) (A : Option Addr) (len : Nat) (K P N : Nat → Int) : Prop :=
  0 < len → ∃ b off, A = some ⟨b, off, none⟩ ∧ ∀ i, i < len → RecAt w b off i (K i) (P i) (N i)
theorem Recs.below {w w' : World} {A : Option Addr} {len : Nat} {K P N : Nat → Int} (h : Recs w A len K P N) (hb : Below w.heap.size w w') : Recs w' A len K P N := fun h0 => by
  obtain ⟨b, off, hA, hi⟩ := h h0
  exact ⟨b, off, hA, fun i hl => (hi i hl).below hb⟩

theorem all_parts' {nx : Int → Option (Int × Bool)} (hn : Falls nx) (down last : Int) (l : List Int) (hl : all nx 0 last = some l) :
    ∃ p r, all nx (max down 0) last = some p ∧ l = p ++ r ∧ (∀ x ∈ p, down < x) ∧ ∀ x ∈ r, x ≤ down := by
  obtain ⟨p, r, hp, rfl, hr⟩ := all_parts hn (max down 0) (by omega) last.toNat last (by omega) l hl
  refine ⟨p, r, hp, rfl, fun x hx => ?_, fun x hx => ?_⟩
  · have := all_le hn (max down 0) (last - max down 0).toNat last (by omega) p hp x hx
    omega
  · have h1 := hr x hx
    have h2 := all_le hn 0 last.toNat last (by omega) _ hl x (List.mem_append_right _ hx)
    omega

set_option maxRecDepth 100000 in
set_option maxHeartbeats 8000000 in
theorem parts_any (A : Option Addr) (len cap : Nat) (K P N : Nat → Int) (last down : Int) (w : World) (hr : Recs w A len K P N) :
    Calls Try.prog 5 #[.slice A len cap, .int .i64 last, .int .i64 down] w fun e w' => e = .returned (.bool true) ∧ Below w.heap.size w w' := by
  have hmf : ∀ (fn : Fn) (first cap : Array Value) (w : World), (Instr.makeFunc fn first cap).run Try.prog w = .ok (.func fn first cap) w := fun _ _ _ _ => rfl
  by_cases hl : 40 < len
  · have hl' : (40 : Int) < (len : Int) := by omega
    have hd : decide (40 < len) = true := by simpa using hl
    go_enter Try.func5, Try.ntmps5
    go_wp2_with (go_at_call 7; refine (alive_any _).mono ?_; rintro e w1 ⟨rfl, hb1⟩)
    go_ret
    exact ⟨rfl, hb1⟩
  · have hd : decide (40 < len) = false := by simpa using hl
    have hd' : decide ((40 : Int) < (len : Int)) = false := by simp; omega
    go_enter Try.func5, Try.ntmps5
    go_wp2_with (go_at_call 7; refine (alive_any _).mono ?_; rintro e w1 ⟨rfl, hb1⟩)
    have hb2 := below_al hb1 (.cells #[.slice A len cap] 26)
    have hlog : IsLog (w1.alloc (.cells #[.slice A len cap] 26)) ⟨w1.heap.size, 0, none⟩ len K P N :=
      ⟨A, cap, by rw [World.cell?_alloc_at _ _ _ _ rfl]; rfl, hr.below hb2⟩
    have s1 := steps_any _ len K P N last 0 _ hlog (by omega)
    rw [show max (0 : Int) 0 = 0 from rfl] at s1
    cases hall : all (nxt len K P N) 0 last with
    | none =>
      rw [hall] at s1
      refine s1.mono ?_
      rintro e w2 ⟨hb3, hB3, rfl⟩
      clear s1 hlog hr hall
      go_wp2_with fail
      go_ret
      exact ⟨rfl, below_tr hb2 hb3⟩
    | some l =>
      obtain ⟨p, r, hp, rfl, hpd, hrd⟩ := all_parts' (nxt_falls len K P N) down last l hall
      rw [hall] at s1
      refine s1.mono ?_
      rintro e w2 ⟨hb3, hB3, va, rfl, hown2⟩
      have s2 := steps_any _ len K P N last down _ (hlog.below hb3) (by omega)
      rw [hp] at s2
      obtain ⟨Aa, ca, rfl, hia⟩ := ints_of_own hown2
      obtain ⟨n, hn⟩ : ∃ n, n = (p ++ r).length := ⟨_, rfl⟩
      rw [← hn] at hia
      rw [← hn]
      have Hn := Lib.hid hn
      clear s1 hlog hr hall hp hown2 hn
      go_wp2_with fail
      refine s2.mono ?_
      rintro e w3 ⟨hb4, hB4, vp, rfl, hown3⟩
      obtain ⟨Ap, cp, rfl, hip⟩ := ints_of_own hown3
      obtain ⟨m, hm⟩ : ∃ m, m = p.length := ⟨_, rfl⟩
      rw [← hm] at hip
      rw [← hm]
      have Hm := Lib.hid hm
      have hmn : m ≤ n := by rw [Hm.out, Hn.out]; simp
      have hnm' : decide (n < m) = false := by simp; omega
      have hia3 := hia.below hb4
      clear s2 hia hown3 hm
      have hm63 := hip.2.1
      have hn63 := hia3.2.1
      have Hip := Lib.hid hip
      have Hia := Lib.hid hia3
      have Hpd := Lib.hid hpd
      have Hrd := Lib.hid hrd
      clear hip hia3 hpd hrd
      go_wp2_with fail
      go_loopw [55] (fun i wr => ∃ k : Nat, i = .int .i64 k ∧ k ≤ m ∧ Below w3.heap.size w3 wr) (fun i _ => m - (intOf i).toNat)
      case atStart => exact ⟨0, rfl, by omega, Below.refl _ _⟩
      case round =>
        obtain ⟨k, rfl, hk, hbel⟩ := hrel
        by_cases hkm : k < m
        · obtain ⟨b, off, hA1, _, hc1⟩ := (Hip.out.below hbel).2.2 (by omega)
          obtain ⟨b', off', hA2, _, hc2⟩ := (Hia.out.below hbel).2.2 (by omega)
          subst hA1
          subst hA2
          have g1 := hc1 k hkm
          have g2 := hc2 k (by omega)
          have hkp : k < p.length := by rw [← Hm.out]; exact hkm
          have e1 : p.getD k 0 = p[k] := by simp [List.getD_eq_getElem?_getD, List.getElem?_eq_getElem hkp]
          have e2 : (p ++ r).getD k 0 = p[k] := by simp [List.getD_eq_getElem?_getD, List.getElem?_append_left hkp, List.getElem?_eq_getElem hkp]
          rw [e1] at g1
          rw [e2] at g2
          have hx := Hpd.out p[k] (List.getElem_mem hkp)
          generalize p[k] = x at *
          have hd1 : decide (x ≤ down) = false := by simp; omega
          have hd2 : (x != x) = false := by simp
          clear e1 e2 hc1 hc2
          go_wp2_with fail
          go_quiet (fail)
          go_wp2
          go_roundw
          case rel => exact ⟨k + 1, by go_num, by omega, below_drN hbel _⟩
          case measure => simp [intOf]; omega
        · obtain rfl : k = m := by omega
          have hfin : Below w.heap.size w wr := below_tr (below_tr (below_tr hb2 hb3) hb4) hbel
          by_cases hmn' : k = n
          · have hb : ((k : Int) == (n : Int)) = true := by simp; omega
            go_wp2_with fail
            go_ret
            exact ⟨rfl, hfin⟩
          · have hb : ((k : Int) == (n : Int)) = false := by simp; omega
            obtain ⟨b', off', hA2, _, hc2⟩ := (Hia.out.below hbel).2.2 (by omega)
            subst hA2
            have g2 := hc2 k (by omega)
            obtain ⟨x, r', hr⟩ : ∃ x r', r = x :: r' := by
              cases r with
              | nil => exact absurd (by rw [Hm.out, Hn.out]; simp) hmn'
              | cons x r' => exact ⟨x, r', rfl⟩
            have hx := Hrd.out x (by rw [hr]; exact List.mem_cons_self)
            rw [hr, show (p ++ x :: r').getD k 0 = x from by simp [List.getD_eq_getElem?_getD, Hm.out]] at g2
            have hd1 : decide (x ≤ down) = true := by simpa using hx
            clear hr hc2 hx
            go_wp2_with fail
            go_ret
            exact ⟨rfl, hfin⟩
end Go.Proofs.Ytlhmjmldndoekaa.Undo
