/- A table of one bucket without a page behind it. No program in sight. -/
import Derived.Test.YtijhamllnnilbaaGreatDoorHvsM
namespace Go.Proofs.YtijhamllnnilbaaGreatDoor.Ha
open Go.RowKit Go.Proofs.YtijhamllnnilbaaGreatDoor.Mem Go.Proofs.YtijhamllnnilbaaGreatDoor.Pg Go.Proofs.YtijhamllnnilbaaGreatDoor.Kp Go.Proofs.YtijhamllnnilbaaGreatDoor.Gr Go.Proofs.YtijhamllnnilbaaGreatDoor.Sp
set_option linter.unusedVariables false
set_option linter.unusedSimpArgs false
def One (t : Tri) : Prop := ∃ b, t = .leaf b ∧ b.ov = []
theorem One.len {t : Tri} (h : One t) : (numsF t.leaves).length = 1 := by
 obtain ⟨b, rfl, hb⟩ := h
 show (numsF [b]).length = 1
 simp [numsF, Lf.nums, Lf.pgs, hb]
theorem one00 : One t00 := ⟨_, rfl, rfl⟩
theorem One.room {t : Tri} (h : One t) (x : Cel) (hx : x.ok) (hk : ∀ c, c ∈ (t.at' (sumF x.key)).cells → c.key = x.key) : ¬ NoFit x ((cutT x.key t).at' (sumF x.key)).pgs := fun hn => by
 rw [(cutT_at x.key t).1] at hn
 have h0 := hn 0 (t.at' (sumF x.key)).n (cutK x.key (t.at' (sumF x.key)).cs) rfl
 have h1 : cutK x.key (t.at' (sumF x.key)).cs = [] := by
  refine List.filter_eq_nil_iff.2 fun c hc => ?_
  have := hk c (List.mem_flatMap.2 ⟨((t.at' (sumF x.key)).n, (t.at' (sumF x.key)).cs), List.mem_cons_self .., hc⟩)
  simp [this]
 rw [h1] at h0
 have h2 := sz_le x hx
 have h3 : szs (ins x []) = x.sz := by simp [ins, szs]
 omega
theorem One.upd {t : Tri} (h : One t) (k : Nat) {ps : List (Nat × List Cel)} (hp : ps.length = 1) : One (updB t k ps) := by
 obtain ⟨b, rfl, _⟩ := h
 cases ps with
 | nil => simp at hp
 | cons p r =>
  have : r = [] := by simpa using hp
  subst this
  exact ⟨_, rfl, rfl⟩
theorem One.pgs {t : Tri} (h : One t) (k : Nat) : (t.at' k).pgs.length = 1 := by
 obtain ⟨b, rfl, hb⟩ := h
 show (b.ov).length + 1 = 1
 rw [hb]; rfl
theorem One.set {t t' : Tri} {x : Cel} {grow : Bool} (h : One t) (hr : ¬ NoFit x ((cutT x.key t).at' (sumF x.key)).pgs) (hs : SetOk x grow t t') : One t' := by
 have hc : One (cutT x.key t) := h.upd _ (by rw [cutP_len]; exact h.pgs _)
 rcases hs with ⟨j, m, cs, _, _, _, rfl⟩ | ⟨t1, hg, ht'⟩
 · exact h.upd _ (by rw [List.length_set]; exact h.pgs _)
 · cases hg with
   | step _ hn => exact absurd hn hr
   | refl =>
    rcases ht' with ⟨j, m, cs, _, _, _, rfl⟩ | ⟨hn, _⟩
    · exact hc.upd _ (by rw [List.length_set]; exact hc.pgs _)
    · exact absurd hn hr
theorem set_roomX {w0 w' : World} {gb mb sb qb c n D : Nat} {pg : Nat → Pag} {t : Tri} {X : List Nat} {tk0 : Int} {x : Cel} {grow : Bool} {e : Ending} (hr : ¬ NoFit x ((cutT x.key t).at' (sumF x.key)).pgs) (h : SetPostX w0 gb mb sb qb c n pg D t X tk0 x grow e w') :
 e = .returned (.int .i64 0) ∧ ∃ pg' D' t' ml', St w0 w' gb mb sb qb c n pg' D' t' ml' X tk0 ∧ SetOk x grow t t' ∧ (∀ k, lookT t' k = if k = x.key then some x else lookT t k) ∧ SameX X pg pg' := by
 rcases h with ⟨he, pg', D', t', ml', h1, h2, h3, h4, h5⟩ | ⟨_, pg', D', t', ml', _, h2, h3, _⟩
 · exact ⟨he, pg', D', t', ml', h1, h2, h3, h5⟩
 · cases h2 with
   | refl => exact absurd h3 hr
   | step _ hn => exact absurd hn hr
def FK (key : List UInt8) (V : Option (List UInt8)) : Mp := fun q => if q = key then V else none
theorem FK.upd (key : List UInt8) (V V' : Option (List UInt8)) : updM (FK key V) key V' = FK key V' := by
 funext q
 unfold updM FK
 by_cases h : q = key
 · rw [if_pos h, if_pos h]
 · rw [if_neg h, if_neg h, if_neg h]
theorem FK.keys {n : Nat} {pg : Nat → Pag} {t : Tri} {X R : List Nat} {pl : Cel → List Nat} {key : List UInt8} {V : Option (List UInt8)} (h : Vt n pg t X R (FK key V) pl) (k : Nat) : ∀ c, c ∈ (t.at' k).cells → c.key = key := fun c hc => by
 obtain ⟨v, h1, _⟩ := h.val c (List.mem_flatMap.2 ⟨_, t.at_mem k, hc⟩)
 unfold FK at h1
 by_cases e : c.key = key
 · exact e
 · rw [if_neg e] at h1; cases h1
end Go.Proofs.YtijhamllnnilbaaGreatDoor.Ha
