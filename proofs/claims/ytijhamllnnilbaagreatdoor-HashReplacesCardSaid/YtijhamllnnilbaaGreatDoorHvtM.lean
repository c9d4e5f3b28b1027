/- A table of keys with values, some in pages of their own. No program in sight. -/
import Derived.Test.YtijhamllnnilbaaGreatDoorP36
namespace Go.Proofs.YtijhamllnnilbaaGreatDoor.Ha
open Go.RowKit Go.Proofs.YtijhamllnnilbaaGreatDoor.Mem Go.Proofs.YtijhamllnnilbaaGreatDoor.Pg Go.Proofs.YtijhamllnnilbaaGreatDoor.Gr Go.Proofs.YtijhamllnnilbaaGreatDoor.Sp
set_option linter.unusedVariables false
set_option linter.unusedSimpArgs false
theorem BlobAt.same {n : Nat} {pg pg' : Nat → Pag} {x : Cel} {v : List UInt8} {l : List Nat} (h : BlobAt n pg x v l) (hs : ∀ m, m ∈ l → pg' m = pg m) : BlobAt n pg' x v l := by
 rcases h with h | ⟨h1, h2, h3, h4, h5, h6, h7, h8⟩
 · exact .inl h
 · exact .inr ⟨h1, h2, h3, h4, h5, h6, fun i m hi => (hs m (List.mem_of_getElem? hi)).trans (h7 i m hi), h8⟩
abbrev Mp := List UInt8 → Option (List UInt8)
def updM (F : Mp) (k : List UInt8) (v : Option (List UInt8)) : Mp := fun q => if q = k then v else F q
structure Vt (n : Nat) (pg : Nat → Pag) (t : Tri) (X R : List Nat) (F : Mp) (pl : Cel → List Nat) : Prop where
 val : ∀ x, x ∈ cellsT t → ∃ v, F x.key = some v ∧ BlobAt n pg x v (pl x)
 none : ∀ k, lookT t k = .none → F k = .none
 used : X.Perm ((cellsT t).flatMap pl ++ R)
def plOf (t : Tri) (pl : Cel → List Nat) (k : List UInt8) : List Nat := match lookT t k with | some y => pl y | .none => []
theorem plOf_some {t : Tri} {pl : Cel → List Nat} {k : List UInt8} {y : Cel} (h : lookT t k = some y) : plOf t pl k = pl y := by unfold plOf; rw [h]
theorem plOf_none {t : Tri} {pl : Cel → List Nat} {k : List UInt8} (h : lookT t k = .none) : plOf t pl k = [] := by unfold plOf; rw [h]
variable {n n' D D' : Nat} {pg pg' pg1 pg2 : Nat → Pag} {t t' : Tri} {ml ml' : List UInt8} {X R : List Nat} {F : Mp} {pl : Cel → List Nat}
theorem Vt.memX (V : Vt n pg t X R F pl) {x : Cel} (hx : x ∈ cellsT t) {m : Nat} (hm : m ∈ pl x) : m ∈ X :=
 V.used.mem_iff.2 (List.mem_append_left _ (List.mem_flatMap.2 ⟨x, hx, hm⟩))
theorem Vt.frame (V : Vt n pg t X R F pl) (h : SameX X pg pg') : Vt n pg' t X R F pl :=
 ⟨fun x hx => by
  obtain ⟨v, h1, h2⟩ := V.val x hx
  exact ⟨v, h1, h2.same (fun m hm => h m (V.memX hx hm))⟩, V.none, V.used⟩
theorem Vt.look (V : Vt n pg t X R F pl) (T : Tb n' pg1 D t) (k : List UInt8) : (lookT t k = .none ∧ F k = .none) ∨ ∃ x v, lookT t k = some x ∧ x.key = k ∧ F k = some v ∧ x ∈ cellsT t ∧ x.ok ∧ BlobAt n pg x v (pl x) := by
 cases e : lookT t k with
 | none => exact .inl ⟨rfl, V.none k e⟩
 | some x =>
  have hk : x.key = k := (lookF_mem e).2
  have hx : x ∈ cellsT t := (cells_look T x).2 (by rw [hk]; exact e)
  obtain ⟨v, h1, h2⟩ := V.val x hx
  obtain ⟨b, hb, hxb⟩ := List.mem_flatMap.1 hx
  exact .inr ⟨x, v, rfl, hk, by rw [← hk]; exact h1, hx, cel_ok T hb hxb, h2⟩
def vlF (F : Mp) (x : Cel) : List UInt8 := (F x.key).getD []
theorem Vt.vals (V : Vt n pg t X R F pl) : ∀ b, b ∈ t.leaves → ∀ x, x ∈ b.cells → BlobAt n pg x (vlF F x) (pl x) := fun b hb x hx => by
 obtain ⟨v, h1, h2⟩ := V.val x (List.mem_flatMap.2 ⟨b, hb, hx⟩)
 unfold vlF
 rw [h1]
 exact h2
theorem Vt.usedE (V : Vt n pg t X R F pl) : X.Perm ((cellsT t).flatMap pl ++ [] ++ R) := by rw [List.append_nil]; exact V.used
theorem cells_no (T : Tb n pg D t) (k : List UInt8) (h : lookT t k = .none) : (cellsT t).filter (fun c => !(c.key == k)) = cellsT t := by
 rw [List.filter_eq_self]
 intro c hc
 have h1 := (cells_look T c).1 hc
 have : c.key ≠ k := fun e => by rw [e, h] at h1; cases h1
 simpa using this
theorem cells_yes (T : Tb n pg D t) (k : List UInt8) (y : Cel) (h : lookT t k = some y) : (cellsT t).Perm (y :: (cellsT t).filter (fun c => !(c.key == k))) := by
 have hk : y.key = k := (lookF_mem h).2
 refine (List.perm_ext_iff_of_nodup (nodup_of_map _ (cells_nodup T)) (List.nodup_cons.2 ⟨fun h1 => ?_, (nodup_of_map _ (cells_nodup T)).filter _⟩)).2 fun c => ?_
 · have h2 := (List.mem_filter.1 h1).2
   simp [hk] at h2
 · rw [List.mem_cons, List.mem_filter]
   constructor
   · intro hc
     by_cases e : c.key = k
     · have h1 := (cells_look T c).1 hc
       rw [e, h] at h1
       injection h1 with h1
       exact .inl h1.symm
     · exact .inr ⟨hc, by simpa using e⟩
   · rintro (rfl | ⟨hc, _⟩)
     · exact (cells_look T c).2 (by rw [hk]; exact h)
     · exact hc
theorem cells_put (T : Tb n pg D t) (T' : Tb n' pg' D' t') (x : Cel) (hl : ∀ k, lookT t' k = if k = x.key then some x else lookT t k) : (cellsT t').Perm (x :: (cellsT t).filter (fun c => !(c.key == x.key))) := by
 refine (List.perm_ext_iff_of_nodup (nodup_of_map _ (cells_nodup T')) (List.nodup_cons.2 ⟨fun h1 => ?_, (nodup_of_map _ (cells_nodup T)).filter _⟩)).2 fun c => ?_
 · have h2 := (List.mem_filter.1 h1).2
   simp at h2
 · rw [cells_look T', hl, List.mem_cons, List.mem_filter, cells_look T]
   by_cases e : c.key = x.key
   · rw [if_pos e]
     constructor
     · intro h; injection h with h; exact .inl h.symm
     · rintro (h | ⟨_, h⟩)
       · rw [h]
       · simp [e] at h
   · rw [if_neg e]
     constructor
     · intro h; exact .inr ⟨h, by simpa using e⟩
     · rintro (h | ⟨h, _⟩)
       · exact absurd (by rw [h]) e
       · exact h
theorem flat_part (T : Tb n pg D t) (k : List UInt8) (pl : Cel → List Nat) : ((cellsT t).flatMap pl).Perm (plOf t pl k ++ ((cellsT t).filter (fun c => !(c.key == k))).flatMap pl) := by
 cases e : lookT t k with
 | none => rw [cells_no T k e, plOf_none e]; exact List.Perm.refl _
 | some y =>
  rw [plOf_some e]
  have h := (cells_yes T k y e).flatMap_right pl
  rw [List.flatMap_cons] at h
  exact h
theorem flat_congr {α β : Type} (f g : α → List β) : ∀ l : List α, (∀ a, a ∈ l → f a = g a) → l.flatMap f = l.flatMap g
 | [], _ => rfl
 | a :: l, h => by rw [List.flatMap_cons, List.flatMap_cons, h a (List.mem_cons_self ..), flat_congr f g l (fun b hb => h b (List.mem_cons_of_mem _ hb))]
theorem Vt.put (V : Vt n pg t X R F pl) (T : Tb n' pg1 D t) (T' : Tb n' pg2 D' t') (x : Cel) (v : List UInt8) (l R1 : List Nat) (hl : ∀ k, lookT t' k = if k = x.key then some x else lookT t k) (hx : BlobAt n pg x v l) (hR : R.Perm (l ++ R1)) :
 Vt n pg t' X (plOf t pl x.key ++ R1) (updM F x.key (some v)) (fun c => if c.key = x.key then l else pl c) := by
 have hp := cells_put T T' x hl
 refine ⟨fun y hy => ?_, fun k hk => ?_, ?_⟩
 · rcases List.mem_cons.1 (hp.mem_iff.1 hy) with rfl | h1
   · exact ⟨v, by unfold updM; rw [if_pos rfl], by simpa using hx⟩
   · obtain ⟨h2, h3⟩ := List.mem_filter.1 h1
     have hne : ¬ y.key = x.key := by simpa using h3
     obtain ⟨u, h4, h5⟩ := V.val y h2
     exact ⟨u, by unfold updM; rw [if_neg hne]; exact h4, by simpa [hne] using h5⟩
 · rw [hl] at hk
   unfold updM
   by_cases e : k = x.key
   · rw [if_pos e] at hk; cases hk
   · rw [if_neg e] at hk ⊢
     exact V.none k hk
 · have e1 := hp.flatMap_right (fun c => if c.key = x.key then l else pl c)
   have e0 := flat_congr (fun c : Cel => if c.key = x.key then l else pl c) pl ((cellsT t).filter (fun c => !(c.key == x.key))) (fun c hc => if_neg (by simpa using (List.mem_filter.1 hc).2))
   rw [List.flatMap_cons, if_pos rfl, e0] at e1
   have e2 := V.used.trans ((flat_part T x.key pl).append hR)
   refine e2.trans (List.Perm.trans ?_ (e1.append_right _).symm)
   generalize plOf t pl x.key = a
   generalize ((cellsT t).filter _).flatMap pl = b
   have : (a ++ b ++ (l ++ R1)).Perm (l ++ b ++ (a ++ R1)) := by
    rw [List.append_assoc, List.append_assoc]
    refine (List.perm_append_comm_assoc a b (l ++ R1)).trans ?_
    refine ((List.perm_append_comm_assoc a l R1).append_left b).trans ?_
    exact List.perm_append_comm_assoc b l (a ++ R1)
   exact this
theorem Vt.take (V : Vt n pg t X R F pl) (l : List Nat) : Vt n pg t (X ++ l) (R ++ l) F pl := ⟨V.val, V.none, by rw [← List.append_assoc]; exact V.used.append_right l⟩
theorem Vt.give (V : Vt n pg t X R F pl) (hX : X.Nodup) {y : Nat} (hy : y ∈ R) : Vt n pg t (X.erase y) (R.erase y) F pl := ⟨V.val, V.none, by
 have h1 := V.used.erase y
 have hn : ((cellsT t).flatMap pl ++ R).Nodup := V.used.nodup_iff.1 hX
 rw [List.erase_append_right _ (fun h => (List.nodup_append.1 hn).2.2 y h y hy rfl)] at h1
 exact h1⟩
theorem Vt.memR (V : Vt n pg t X R F pl) {y : Nat} (hy : y ∈ R) : y ∈ X := V.used.mem_iff.2 (List.mem_append_right _ hy)
theorem Vt.congr {G : Mp} (V : Vt n pg t X R F pl) (h : ∀ k, F k = G k) : Vt n pg t X R G pl := by
 have : F = G := funext h
 rw [← this]; exact V
theorem vt00 (n : Nat) (pg : Nat → Pag) (pl : Cel → List Nat) : Vt n pg t00 [] [] (fun _ => .none) pl :=
 ⟨(fun x hx => by cases hx), (fun k _ => rfl), List.Perm.refl _⟩
end Go.Proofs.YtijhamllnnilbaaGreatDoor.Ha
