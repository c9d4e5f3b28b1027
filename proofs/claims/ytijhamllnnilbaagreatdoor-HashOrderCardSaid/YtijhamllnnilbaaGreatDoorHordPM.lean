/- Tables of keys with a value each that hangs on the key alone; their entries, sorted. No program in sight. -/
import Derived.Test.YtijhamllnnilbaaGreatDoorP36
import Derived.Test.YtijhamllnnilbaaGreatDoorP33
namespace Go.Proofs.YtijhamllnnilbaaGreatDoor.Ha
open Go.RowKit Go.Proofs.YtijhamllnnilbaaGreatDoor.Mem Go.Proofs.YtijhamllnnilbaaGreatDoor.Pg Go.Proofs.YtijhamllnnilbaaGreatDoor.Gr Go.Proofs.YtijhamllnnilbaaGreatDoor.Sp
set_option linter.unusedVariables false
set_option linter.unusedSimpArgs false
structure Kv (t : Tri) (f : List UInt8 → List UInt8) (J : List (List UInt8)) : Prop where
 look : ∀ k, lookT t k = if k ∈ J then some ⟨k, f k, 0, 0⟩ else none
theorem Kv.new (f : List UInt8 → List UInt8) : Kv t00 f [] := ⟨fun k => by rw [look00]; simp⟩
theorem Kv.put {t t' : Tri} {f : List UInt8 → List UInt8} {J : List (List UInt8)} (h : Kv t f J) (k : List UInt8) (hl : ∀ k', lookT t' k' = if k' = k then some ⟨k, f k, 0, 0⟩ else lookT t k') : Kv t' f (k :: J) := ⟨fun k' => by
 rw [hl k', h.look k']
 by_cases e : k' = k
 · subst e; simp
 · simp [e]⟩
theorem Kv.inl {n D : Nat} {pg : Nat → Pag} {t : Tri} {f : List UInt8 → List UInt8} {J : List (List UInt8)} (h : Kv t f J) (T : Tb n pg D t) : AllIn t := fun b hb x hx => by
 have h1 := look_mem T hb hx
 rw [h.look] at h1
 by_cases e : x.key ∈ J
 · rw [if_pos e] at h1
   injection h1 with h1
   rw [← h1]
 · rw [if_neg e] at h1; cases h1
theorem Kv.same {t t' : Tri} {f : List UInt8 → List UInt8} {J J' : List (List UInt8)} (h : Kv t f J) (h' : Kv t' f J') (hJ : ∀ k, k ∈ J ↔ k ∈ J') (k : List UInt8) : lookT t k = lookT t' k := by
 rw [h.look, h'.look]
 by_cases e : k ∈ J
 · rw [if_pos e, if_pos ((hJ k).1 e)]
 · rw [if_neg e, if_neg (fun h => e ((hJ k).2 h))]
theorem sorted_eq : ∀ {a b : List Ent}, a.Perm b → SortedK Prod.fst a → SortedK Prod.fst b → (a.map Prod.fst).Nodup → a = b
 | [], b, hp, _, _, _ => (List.Perm.eq_nil hp.symm).symm
 | x :: a, [], hp, _, _, _ => absurd hp.length_eq (by simp)
 | x :: a, y :: b, hp, ha, hb, hn => by
  have hxy : x = y := by
   have h1 : x ∈ y :: b := hp.subset (List.mem_cons_self ..)
   have h2 : y ∈ x :: a := hp.symm.subset (List.mem_cons_self ..)
   rcases List.mem_cons.1 h1 with h | h
   · exact h
   rcases List.mem_cons.1 h2 with h' | h'
   · exact h'.symm
   · have h3 := (List.pairwise_cons.1 ha).1 y h'
     have h4 := (List.pairwise_cons.1 hb).1 x h
     have h5 : x.1 = y.1 := List.le_antisymm h3 h4
     rw [List.map_cons] at hn
     exact absurd (by rw [h5]; exact List.mem_map_of_mem h') (List.nodup_cons.1 hn).1
  subst hxy
  rw [List.map_cons] at hn
  rw [sorted_eq (List.Perm.cons_inv hp) (List.pairwise_cons.1 ha).2 (List.pairwise_cons.1 hb).2 (List.nodup_cons.1 hn).2]
theorem cells_perm {n1 n2 D1 D2 : Nat} {p1 p2 : Nat → Pag} {t1 t2 : Tri} (T1 : Tb n1 p1 D1 t1) (T2 : Tb n2 p2 D2 t2) (h : ∀ k, lookT t1 k = lookT t2 k) : (cellsT t1).Perm (cellsT t2) :=
 (List.perm_ext_iff_of_nodup (nodup_of_map Cel.key (cells_nodup T1)) (nodup_of_map Cel.key (cells_nodup T2))).2 fun x => by rw [cells_look T1, cells_look T2, h]
theorem dump_same {n1 n2 D1 D2 : Nat} {p1 p2 : Nat → Pag} {t1 t2 : Tri} (T1 : Tb n1 p1 D1 t1) (T2 : Tb n2 p2 D2 t2) (h : ∀ k, lookT t1 k = lookT t2 k) (vl : Cel → List UInt8) {e1 e2 : List Ent} (h1 : e1.Perm ((celsF t1 (fstT t1 (2 ^ D1))).map (entOf vl))) (h2 : e2.Perm ((celsF t2 (fstT t2 (2 ^ D2))).map (entOf vl))) (s1 : SortedK Prod.fst e1) (s2 : SortedK Prod.fst e2) : e1 = e2 := by
 have g1 := h1.trans ((celsF_perm T1).map (entOf vl))
 have g2 := h2.trans ((celsF_perm T2).map (entOf vl))
 refine sorted_eq (g1.trans (((cells_perm T1 T2 h).map (entOf vl)).trans g2.symm)) s1 s2 ?_
 refine (g1.map Prod.fst).nodup_iff.2 ?_
 rw [List.map_map]
 exact cells_nodup T1
end Go.Proofs.YtijhamllnnilbaaGreatDoor.Ha
