/- Lemmas of the claim, in their order:
- The contract of chapter 19's Into; a new group over what was written.
-/
import Derived.Test.YtijhamllnnilbaaGreatDoorR41
set_option linter.unusedVariables false
set_option linter.unusedSimpArgs false
namespace Go.Proofs.YtijhamllnnilbaaGreatDoor.Ha
open Go.RowKit Go.Proofs.YtijhamllnnilbaaGreatDoor.Mem Go.Proofs.YtijhamllnnilbaaGreatDoor.Pg Go.Proofs.YtijhamllnnilbaaGreatDoor.Kp Go.Proofs.YtijhamllnnilbaaGreatDoor.Sp Go.Proofs.YtijhamllnnilbaaGreatDoor.Gr
set_option linter.unusedSimpArgs false
set_option linter.unusedVariables false
def intoB (M : Int → Option (List UInt8)) (B : Nat → List UInt8) (j : Nat) : Nat → List UInt8 := fun i => if i < j then (M (i : Nat)).getD (B i) else B i
theorem into_zero (M : Int → Option (List UInt8)) (B : Nat → List UInt8) : intoB M B 0 = B := by funext i; unfold intoB; rw [if_neg (Nat.not_lt_zero i)]
theorem into_none {M : Int → Option (List UInt8)} {B : Nat → List UInt8} {j : Nat} (h : M (j : Nat) = none) : intoB M B (j + 1) = intoB M B j := by
 funext i
 unfold intoB
 by_cases e : i = j
 · subst e; rw [if_pos (Nat.lt_succ_self i), if_neg (Nat.lt_irrefl i), h]; rfl
 · by_cases h1 : i < j
   · rw [if_pos h1, if_pos (by omega)]
   · rw [if_neg h1, if_neg (by omega)]
theorem into_some {M : Int → Option (List UInt8)} {B : Nat → List UInt8} {j : Nat} {b : List UInt8} (h : M (j : Nat) = some b) : intoB M B (j + 1) = fun i => if i = j then b else intoB M B j i := by
 funext i
 unfold intoB
 by_cases e : i = j
 · subst e; rw [if_pos (Nat.lt_succ_self i), if_pos rfl, h]; rfl
 · rw [if_neg e]
   by_cases h1 : i < j
   · rw [if_pos h1, if_pos (by omega)]
   · rw [if_neg h1, if_neg (by omega)]
theorem tab_ne {w : World} {sb qb n c : Nat} {dead : Int} {B : Nat → List UInt8} (ht : Tab w) (hs : Sto w sb qb n c dead B) (hn : 0 < n) : gtab ≠ qb := fun e => by
 obtain ⟨cs, h1, h2⟩ := hs.pgs
 have h3 := h2 0 hn
 unfold Tab Lib.TabIs World.var? at ht
 rw [gtab_eq] at ht
 simp only [Option.bind_some] at ht
 rw [e, h1] at ht
 have h4 : cs = (Lib.asciiSpaceTab.map fun z => Value.int .u8 z).toArray := by simpa using ht
 rw [h4] at h3
 have h5 : (Lib.asciiSpaceTab.map fun z => Value.int .u8 z).toArray[0]? = some (.int .u8 0) := by kernel_rfl
 rw [h5] at h3
 cases h3
set_option maxRecDepth 100000 in
set_option maxHeartbeats 4000000 in
theorem into_ok (w0 w : World) (gb mb sb qb c n : Nat) (pg : Nat → Pag) (tk : Int) (h : GV w0 w gb mb sb qb c n pg tk) (hn0 : 0 < n) :
 Calls Tryz.prog 22 #[.pointer (some ⟨sb, 0, none⟩), .pointer (some ⟨gb, 0, none⟩)] w fun e w' => e = .returned (.tuple #[]) ∧ (∃ B, Sto w' sb qb n c (-1) B ∧ ∀ i, i < n → Shows (B i) (pg i)) ∧ Tab w' ∧ Keep (fun j => j = qb) w w' := by
 obtain ⟨B, M, hs, hg, hsh⟩ := h.st
 have h64 := h.n64
 have ho := h.ord
 have hlt := h.lt
 have Ht := Lib.hid h.tab
 have S0 : Hid (Sto w sb qb n c (-1) (intoB M B 0)) := Lib.hid (by rw [into_zero]; exact hs)
 have G0 := Lib.hid hg
 have K0 : Hid (Keep (fun j => j = qb) w w) := Lib.hid (Keep.refl _ _)
 have SH := Lib.hid hsh
 have hne := hs.ne
 have hgt := tab_ne h.tab hs hn0
 have cs := blk_cell hs.sto
 clear h hs hg hsh
 go_enter Tryz.func22, Tryz.ntmps22
 go_wp2_with fail
 clear cs
 go_loopg [12] n (fun g v12 wr => ∃ k : Nat, v12 = .int .i64 (k : Nat) ∧ g + k = n ∧ Hid (Sto wr sb qb n c (-1) (intoB M B k)) ∧ Hid (Grp wr gb mb sb M tk) ∧ Hid (Keep (fun j => j = qb) w wr))
 case atStart => exact ⟨0, rfl, by omega, S0, G0, K0⟩
 case round =>
  clear S0 G0 K0
  obtain ⟨k, rfl, hk, S1, G1, K1⟩ := hrel
  by_cases hltk : k < n
  · have hkI : (k : Int) < (n : Int) := by omega
    have i1 : IntKind.i64.wrap ((k : Int) + 1) = (k : Int) + 1 := IntWalk.i64_in _ (by omega)
    have hby := gbytes_any wr gb mb sb M tk (k : Nat) (kl_wf (by omega) (by omega)) G1.out
    have cs := blk_cell S1.out.sto
    have ls := S1.out.lt1
    obtain ⟨cq, fq⟩ := stoCell S1.out k hltk
    have lq := S1.out.lt2
    obtain ⟨b, hb1, hb2⟩ := SH.out k hltk
    have hb3 : b.length ≤ 1000 := by rw [hb2.len]; omega
    rcases hM : M (k : Nat) with _ | b'
    · rw [hM] at hby
      have S2 : Hid (Sto wr sb qb n c (-1) (intoB M B (k + 1))) := Lib.hid (by rw [into_none hM]; exact S1.out)
      clear hM hb1 hb2 hb3 cq fq
      go_wp2_with fail
      with_reducible refine hby.mono ?_
      rintro e w2 ⟨rfl, rfl⟩
      clear hby cs
      go_wp2_with fail
      go_roundg (gk - 1)
      case measure => omega
      case rel => exact ⟨k + 1, by go_num, by omega, S2, G1, K1⟩
    · have hbb : b' = b := by
       simp only [Gr.seen, hM] at hb1
       exact (Prod.mk.inj hb1).1
      subst hbb
      have S2 : Hid (Sto (wr.setCell ⟨qb, k, none⟩ (.string (str b'))) sb qb n c (-1) (intoB M B (k + 1))) := Lib.hid (by rw [into_some hM]; exact stoSet S1.out k b' hb3)
      have KS : Keep (fun j => j = qb) wr (wr.setCell ⟨qb, k, none⟩ (.string (str b'))) := Keep.setCell (S := fun j => j = qb) (Keep.refl _ wr) (.inl rfl) _
      have K2 := Lib.hid (K1.out.trans KS)
      have G2 := Lib.hid (G1.out.keep KS (fun e => by omega) (fun e => by omega))
      rw [hM] at hby
      simp only [Option.getD_some, Option.isSome_some] at hby
      obtain ⟨S, hS⟩ : ∃ S, S = str b' := ⟨_, rfl⟩
      rw [← hS] at hby S2 K2 G2
      clear hM hb1 hb2 hb3 KS hS
      go_wp2_with fail
      with_reducible refine hby.mono ?_
      rintro e w2 ⟨rfl, rfl⟩
      clear hby
      go_wp2_with fail
      go_roundg (gk - 1)
      case measure => omega
      case rel => exact ⟨k + 1, by go_num, by omega, S2, G2, K2⟩
  · have hkn : ¬ (k : Int) < (n : Int) := by omega
    obtain rfl : k = n := by omega
    have HF : Hid ((∃ B, Sto wr sb qb k c (-1) B ∧ ∀ i, i < k → Shows (B i) (pg i)) ∧ Tab wr ∧ Keep (fun j => j = qb) w wr) := Lib.hid ⟨⟨_, S1.out, fun i hi => by
     obtain ⟨b, h1, h2⟩ := SH.out i hi
     unfold intoB
     rw [if_pos hi]
     cases hM : M (i : Nat) with
     | none =>
      simp only [Gr.seen, hM, rd_in hi] at h1
      rw [Option.getD_none, (Prod.mk.inj h1).1]; exact h2
     | some b' =>
      simp only [Gr.seen, hM] at h1
      rw [Option.getD_some, (Prod.mk.inj h1).1]; exact h2⟩, Ht.out.keep K1.out (fun e => hgt e), K1.out⟩
    go_wp2_with fail
    go_end0
    exact ⟨rfl, HF.out⟩
theorem regroup (w0 w1 w2 : World) (gb mb sb qb c n D : Nat) (pg : Nat → Pag) (t : Tri) (ml : List UInt8) (X : List Nat) (tk0 : Int) (B : Nat → List UInt8) (hs : Hs n pg D t ml X) (ht : Tab w2) (hsto : Sto w2 sb qb n c (-1) B) (hsh : ∀ i, i < n → Shows (B i) (pg i)) (hb : Below w0.heap.size w0 w2) :
 Calls Tryz.prog 15 #[rdv sb] w2 fun e w' => ∃ gb' mb', e = .returned (.pointer (some ⟨gb', 0, none⟩)) ∧ St w0 w' gb' mb' sb qb c n pg D t ml X (-((numsF t.leaves).length : Int)) ∧ w2.heap.size ≤ gb' ∧ w2.heap.size ≤ mb' ∧ Below w2.heap.size w2 w' := by
 refine (newG_any w0 w2 n sb qb c B pg ht hsto hsh hb).mono ?_
 rintro e w' ⟨gb', mb', rfl, hgv, h1, h2, h3⟩
 refine ⟨gb', mb', rfl, ⟨?_, hs⟩, h1, h2, h3⟩
 have e : -((numsF t.leaves).length : Int) + ((numsF t.leaves).length : Int) = 0 := by omega
 rw [e]
 exact hgv
end Go.Proofs.YtijhamllnnilbaaGreatDoor.Ha
