/- Lemmas of the claim, in their order:
- The buckets of a directory, each once. No program in sight.
- The pages that a table's check reaches. No program in sight.
-/
import Derived.Test.YtijhamllnnilbaaGreatDoorU28
import Derived.Test.YtijhamllnnilbaaGreatDoorU27
set_option linter.unusedVariables false
set_option linter.unusedSimpArgs false
namespace Go.Proofs.YtijhamllnnilbaaGreatDoor.Ha
open Go.RowKit Go.Proofs.YtijhamllnnilbaaGreatDoor.Mem Go.Proofs.YtijhamllnnilbaaGreatDoor.Pg Go.Proofs.YtijhamllnnilbaaGreatDoor.Gr
set_option linter.unusedVariables false
set_option linter.unusedSimpArgs false
/-- Where each bucket comes first, below j. -/
def fstT (t : Tri) : Nat → List Nat
  | 0 => []
  | j + 1 => if (t.at' j).n ∈ (fstT t j).map (fun i => (t.at' i).n) then fstT t j else fstT t j ++ [j]
theorem fstT_all (t : Tri) : ∀ j i, i < j → (t.at' i).n ∈ (fstT t j).map (fun i => (t.at' i).n)
  | 0, i, h => by omega
  | j + 1, i, h => by
    unfold fstT
    by_cases e : i = j
    · subst e
      split
      · assumption
      · rw [List.map_append]; exact List.mem_append_right _ (by simp)
    · have := fstT_all t j i (by omega)
      split
      · exact this
      · rw [List.map_append]; exact List.mem_append_left _ this
theorem fstT_nodup (t : Tri) : ∀ j, ((fstT t j).map (fun i => (t.at' i).n)).Nodup
  | 0 => List.nodup_nil
  | j + 1 => by
    unfold fstT
    split
    · exact fstT_nodup t j
    · rename_i h
      rw [List.map_append, List.nodup_append]
      refine ⟨fstT_nodup t j, by simp, fun a ha b hb e => ?_⟩
      simp at hb
      subst hb
      exact h (e ▸ ha)
theorem fstT_len (t : Tri) : ∀ j, (fstT t j).length ≤ j
  | 0 => Nat.le_refl _
  | j + 1 => by
    have := fstT_len t j
    unfold fstT
    split
    · omega
    · rw [List.length_append]; simp; omega
variable {n D : Nat} {pg : Nat → Pag} {t : Tri}
theorem leaves_nodup (T : Tb n pg D t) : t.leaves.Nodup := List.Pairwise.of_map Lf.n (fun a b h e => h (by rw [e])) (numsF_n _ T.nums)
/-- All buckets, each once. -/
theorem fstT_perm (T : Tb n pg D t) : ((fstT t (2 ^ D)).map (fun i => t.at' i)).Perm t.leaves := by
  have hnd : ((fstT t (2 ^ D)).map (fun i => t.at' i)).Nodup := by
    have h := fstT_nodup t (2 ^ D)
    have e : (fstT t (2 ^ D)).map (fun i => (t.at' i).n) = ((fstT t (2 ^ D)).map (fun i => t.at' i)).map Lf.n := by rw [List.map_map]; rfl
    rw [e] at h
    exact List.Pairwise.of_map Lf.n (fun a b h e => h (by rw [e])) h
  refine (List.perm_ext_iff_of_nodup hnd (leaves_nodup T)).2 fun b => ⟨fun hb => ?_, fun hb => ?_⟩
  · obtain ⟨i, _, rfl⟩ := List.mem_map.1 hb
    exact t.at_mem i
  · obtain ⟨i, hi, rfl⟩ := t.mem_at b hb
    have hlt : i < 2 ^ D := Nat.lt_of_lt_of_le hi (Nat.pow_le_pow_right (by omega) T.hi)
    obtain ⟨k, hk, e⟩ := List.mem_map.1 (fstT_all t (2 ^ D) i hlt)
    exact List.mem_map.2 ⟨k, hk, (T.inj k i e).1⟩
end Go.Proofs.YtijhamllnnilbaaGreatDoor.Ha
namespace Go.Proofs.YtijhamllnnilbaaGreatDoor.Ha
open Go.RowKit Go.Proofs.YtijhamllnnilbaaGreatDoor.Mem Go.Proofs.YtijhamllnnilbaaGreatDoor.Pg Go.Proofs.YtijhamllnnilbaaGreatDoor.Kp Go.Proofs.YtijhamllnnilbaaGreatDoor.Sp Go.Proofs.YtijhamllnnilbaaGreatDoor.Gr
set_option linter.unusedVariables false
set_option linter.unusedSimpArgs false
/-- All cells. -/
def cellsT (t : Tri) : List Cel := t.leaves.flatMap Lf.cells
theorem cel_ok {n D : Nat} {pg : Nat → Pag} {t : Tri} (T : Tb n pg D t) {b : Lf} (hb : b ∈ t.leaves) {c : Cel} (hc : c ∈ b.cells) : c.ok := by
  obtain ⟨p, hp, hcp⟩ := List.mem_flatMap.1 hc
  exact (T.fits b hb p hp).ok c hcp
/-- The pages of a bucket's values; those with its own. -/
def blobsB (pl : Cel → List Nat) (b : Lf) : List Nat := b.cells.flatMap pl
def visF (pl : Cel → List Nat) (b : Lf) : List Nat := b.nums ++ blobsB pl b
theorem flat_perm {α β : Type} (f g : α → List β) : ∀ l : List α, (l.flatMap (fun a => f a ++ g a)).Perm (l.flatMap f ++ l.flatMap g)
  | [] => List.Perm.refl _
  | a :: l => by
    simp only [List.flatMap_cons]
    have h1 := (flat_perm f g l).append_left (f a ++ g a)
    refine h1.trans ?_
    rw [List.append_assoc, List.append_assoc]
    refine List.Perm.append_left _ ?_
    rw [← List.append_assoc, ← List.append_assoc]
    exact List.perm_append_comm.append_right _
theorem perm_flat {α β : Type} (f : α → List β) {l m : List α} (h : l.Perm m) : (l.flatMap f).Perm (m.flatMap f) := h.flatMap_right f
variable {n D : Nat} {pg : Nat → Pag} {t : Tri} {ml : List UInt8} {X : List Nat}
theorem blobs_flat (pl : Cel → List Nat) (t : Tri) : (cellsT t).flatMap pl = t.leaves.flatMap (blobsB pl) := by
  unfold cellsT blobsB
  rw [List.flatMap_assoc]
theorem vis_perm (T : Tb n pg D t) (pl : Cel → List Nat) : ((fstT t (2 ^ D)).flatMap (fun i => visF pl (t.at' i))).Perm (numsF t.leaves ++ (cellsT t).flatMap pl) := by
  have h1 := perm_flat (visF pl) (fstT_perm T)
  rw [List.flatMap_map] at h1
  refine h1.trans ?_
  rw [blobs_flat]
  exact flat_perm Lf.nums (blobsB pl) t.leaves
/-- All that the check reaches. -/
def visAll (pl : Cel → List Nat) (D : Nat) (t : Tri) (E : List Nat) : List Nat := [0, 1] ++ E ++ (fstT t (2 ^ D)).flatMap (fun i => visF pl (t.at' i))
theorem all_perm (H : Hs n pg D t ml X) (pl : Cel → List Nat) {E R : List Nat} (hX : X.Perm ((cellsT t).flatMap pl ++ E ++ R)) : (visAll pl D t E ++ R).Perm ([0, 1] ++ (numsF t.leaves ++ X)) := by
  unfold visAll
  rw [List.append_assoc, List.append_assoc]
  refine List.Perm.append_left _ ?_
  have h1 := vis_perm H.tb pl
  have h2 : (numsF t.leaves ++ X).Perm (numsF t.leaves ++ ((cellsT t).flatMap pl ++ E ++ R)) := hX.append_left _
  refine List.Perm.trans ?_ h2.symm
  have h3 : (E ++ ((fstT t (2 ^ D)).flatMap (fun i => visF pl (t.at' i)) ++ R)).Perm (E ++ ((numsF t.leaves ++ (cellsT t).flatMap pl) ++ R)) := (h1.append_right R).append_left E
  refine h3.trans ?_
  rw [← List.append_assoc, ← List.append_assoc, ← List.append_assoc]
  refine List.Perm.append_right _ ?_
  rw [List.append_assoc, ← List.append_assoc (numsF t.leaves)]
  exact List.perm_append_comm
theorem all_nodup (H : Hs n pg D t ml X) (pl : Cel → List Nat) {E R : List Nat} (hX : X.Perm ((cellsT t).flatMap pl ++ E ++ R)) : (visAll pl D t E ++ R).Nodup := by
  refine (all_perm H pl hX).nodup_iff.2 ?_
  rw [List.nodup_append, List.nodup_append]
  refine ⟨by simp, ⟨H.tb.nums, H.xn, fun a ha b hb e => H.xd b hb (e ▸ ha)⟩, fun a ha b hb e => ?_⟩
  have h2 : 2 ≤ b := by
    rcases List.mem_append.1 hb with h | h
    · exact (H.tb.rng b h).1
    · exact (H.xr b h).1
  simp at ha
  omega
theorem all_mem (H : Hs n pg D t ml X) (pl : Cel → List Nat) {E R : List Nat} (hX : X.Perm ((cellsT t).flatMap pl ++ E ++ R)) (m : Nat) (hm : m < n) : bt ml m = 1 ↔ m ∈ visAll pl D t E ∨ m ∈ R := by
  rw [← List.mem_append, (all_perm H pl hX).mem_iff]
  by_cases h2 : 2 ≤ m
  · rw [H.used m h2 hm]
    simp only [List.mem_append, List.mem_cons, List.not_mem_nil, or_false]
    constructor
    · exact fun h => .inr h
    · rintro (h | h)
      · omega
      · exact h
  · rcases (show m = 0 ∨ m = 1 by omega) with rfl | rfl
    · exact ⟨fun _ => by simp, fun _ => H.is.b0⟩
    · exact ⟨fun _ => by simp, fun _ => H.is.b1⟩
theorem all_lt (H : Hs n pg D t ml X) (pl : Cel → List Nat) {E R : List Nat} (hX : X.Perm ((cellsT t).flatMap pl ++ E ++ R)) (m : Nat) (hm : m ∈ visAll pl D t E ++ R) : m < n := by
  have h8 := H.is.ge
  rw [(all_perm H pl hX).mem_iff] at hm
  simp only [List.mem_append, List.mem_cons, List.not_mem_nil, or_false] at hm
  rcases hm with h | h | h
  · omega
  · exact (H.tb.rng m h).2
  · exact (H.xr m h).2
/-- Reached, and not looked at below j. -/
def fromJ (V : List Nat) (j : Nat) : List Nat := V.filter (fun m => decide (j ≤ m))
theorem fromJ_zero (V : List Nat) : fromJ V 0 = V := by unfold fromJ; rw [List.filter_eq_self]; intro a _; simp
theorem fromJ_end {V : List Nat} {n : Nat} (h : ∀ m, m ∈ V → m < n) : fromJ V n = [] := by
  unfold fromJ
  rw [List.filter_eq_nil_iff]
  intro a ha
  have := h a ha
  simp
  omega
theorem fromJ_mem {V : List Nat} {j m : Nat} : m ∈ fromJ V j ↔ m ∈ V ∧ j ≤ m := by unfold fromJ; rw [List.mem_filter]; simp
theorem fromJ_step {V : List Nat} (hn : V.Nodup) (j : Nat) : (fun i : Int => !(i == (j : Int)) && decide (i ∈ toI (fromJ V j))) = (fun i => decide (i ∈ toI (fromJ V (j + 1)))) ∧ (if decide ((j : Int) ∈ toI (fromJ V j)) = true then (fromJ V j).length - 1 else (fromJ V j).length) = (fromJ V (j + 1)).length := by
  constructor
  · funext i
    by_cases h0 : 0 ≤ i
    · obtain ⟨a, rfl⟩ : ∃ a : Nat, i = a := ⟨i.toNat, by omega⟩
      rw [Bool.eq_iff_iff]
      simp only [Bool.and_eq_true, Bool.not_eq_true', beq_eq_false_iff_ne, decide_eq_true_eq, toI_mem, fromJ_mem]
      constructor
      · rintro ⟨h1, h2, h3⟩; exact ⟨h2, by omega⟩
      · rintro ⟨h1, h2⟩; exact ⟨by omega, h1, by omega⟩
    · have : ∀ V : List Nat, ¬ i ∈ toI V := fun V h => by
        obtain ⟨a, _, e⟩ := List.mem_map.1 h
        omega
      simp [this]
  · have key : fromJ V (j + 1) = (fromJ V j).filter (fun m => !(m == j)) := by
      unfold fromJ
      rw [List.filter_filter]
      congr 1
      funext m
      rw [Bool.eq_iff_iff]
      simp
      omega
    have hnd : (fromJ V j).Nodup := hn.filter _
    rw [key]
    by_cases h : j ∈ fromJ V j
    · rw [if_pos (by rw [decide_eq_true_eq, toI_mem]; exact h)]
      have e : (fromJ V j).filter (fun m => !(m == j)) = (fromJ V j).erase j := by rw [hnd.erase_eq_filter]; rfl
      rw [e, List.length_erase_of_mem h]
    · rw [if_neg (by rw [decide_eq_true_eq, toI_mem]; exact h)]
      congr 1
      symm
      rw [List.filter_eq_self]
      intro a ha
      have : a ≠ j := fun e => h (e ▸ ha)
      simpa using this
end Go.Proofs.YtijhamllnnilbaaGreatDoor.Ha
