/- The book of lists that were answered: plain laws on rows, their tags, and an append that leaves the old row's cells. -/
import Derived.Test.YtlinolgbpnokcaaGreatDoorProg
import Derived.Test.YtlinolgbpnokcaaGreatDoorMem
import Derived.KernelRfl
import Derived.OneCell
import Derived.Laws.AppendOwnNone
namespace Go.Proofs.YtlinolgbpnokcaaGreatDoor.Bk
open Go.RowKit Go.Proofs.YtlinolgbpnokcaaGreatDoor.Mem

/-- Marks. -/
def mks (i f n : Nat) : List Int := (List.range n).map fun k => -1000000 * (i : Int) - ((f + k : Nat) : Int) - 7
theorem mks_len (i f n : Nat) : (mks i f n).length = n := by simp [mks]
theorem mks_zero (i f : Nat) : mks i f 0 = [] := rfl
theorem mks_succ (i f n : Nat) : mks i f (n + 1) = mks i f n ++ [-1000000 * (i : Int) - ((f + n : Nat) : Int) - 7] := by simp [mks, List.range_succ]
theorem mks_add (i f n m : Nat) : mks i f (n + m) = mks i f n ++ mks i (f + n) m := by
  induction m with
  | zero => simp [mks_zero]
  | succ m ih => rw [← Nat.add_assoc, mks_succ, ih, mks_succ, List.append_assoc, Nat.add_assoc]
theorem mks_get (i f n j : Nat) (h : j < n) : (mks i f n).getD j 0 = -1000000 * (i : Int) - ((f + j : Nat) : Int) - 7 := by
  simp [mks, List.getD_eq_getElem?_getD, h]
theorem ints_app (a b : List Int) : ints (a ++ b) = ints a ++ ints b := by simp [ints]

/-- Whose a block is. -/
def Tag (o : Nat → Nat) (v : Value) (t : Nat) : Prop := ∀ g, v.ownBlock = some g → o g = t
/-- All blocks from n on are t's. -/
def ext (o : Nat → Nat) (n t : Nat) : Nat → Nat := fun k => if k < n then o k else t
theorem ext_lt {o : Nat → Nat} {n t k : Nat} (h : k < n) : ext o n t k = o k := if_pos h
theorem ext_ge {o : Nat → Nat} {n t k : Nat} (h : n ≤ k) : ext o n t k = t := if_neg (by omega)
theorem Tag.ext {o : Nat → Nat} {v : Value} {t n s : Nat} (h : Tag o v t) (hl : ∀ g, v.ownBlock = some g → g < n) : Tag (ext o n s) v t := fun g hg => (ext_lt (hl g hg)).trans (h g hg)
theorem tag_nil (o : Nat → Nat) (t : Nat) : Tag o (.slice none 0 0) t := fun g h => by cases h
theorem tag_new (o : Nat → Nat) (n t : Nat) {v : Value} (h : ∀ g, v.ownBlock = some g → n ≤ g) : Tag (ext o n t) v t := fun g hg => ext_ge (h g hg)
theorem Tag.ne {o : Nat → Nat} {v : Value} {t g : Nat} (h : Tag o v t) (hg : o g ≠ t) : v.ownBlock = none ∨ v.ownBlock ≠ some g :=
  .inr fun e => hg (h g e)
theorem Tag.ne2 {o : Nat → Nat} {v u : Value} {t s : Nat} (h : Tag o v t) (k : Tag o u s) (hne : t ≠ s) : v.ownBlock = none ∨ v.ownBlock ≠ u.ownBlock := by
  cases hv : v.ownBlock with
  | none => exact .inl rfl
  | some g => exact .inr fun e => hne ((h g hv).symm.trans (k g e.symm))

theorem row_lt {w : World} {base : Nat} {e : TypeId} {size n : Nat} {v : Value} {xs : List Value} (h : w.ownsRow base e size v n xs) (g : Nat) (hg : v.ownBlock = some g) : g < w.heap.size := (h.lt g hg).2
theorem row_ge {w : World} {base : Nat} {e : TypeId} {size n : Nat} {v : Value} {xs : List Value} (h : w.ownsRow base e size v n xs) (g : Nat) (hg : v.ownBlock = some g) : base ≤ g := (h.lt g hg).1
theorem grown_setCell (w : World) (g j : Nat) (u : Value) : w.grownBy (w.setCell ⟨g, j, none⟩ u) (some g) :=
  ⟨rfl, rfl, rfl, by simp, fun k _ hk => heap_setCell_other w ⟨g, j, none⟩ k u (fun e => hk (by rw [e]))⟩
theorem grown_alloc (w : World) (o : Obj) (r : Option Nat) : w.grownBy (w.alloc o) r := ⟨rfl, rfl, rfl, by simp, fun k hk _ => heap_alloc_old w o hk⟩
theorem grown_refl (w : World) (r : Option Nat) : w.grownBy w r := ⟨rfl, rfl, rfl, Nat.le_refl _, fun _ _ _ => rfl⟩
theorem blk_grown {w w' : World} {row : Option Nat} {g : Nat} {X : Obj} (h : w.heap[g]? = some X) (hg : w.grownBy w' row) (hne : some g ≠ row) : w'.heap[g]? = some X := by rw [hg.block g (lt_of_block h) hne, h]

/-- The row's cells are read the same behind the append, whether it lies in the old block or a new one. -/
theorem run_append_keeps {P : Program} (w : World) (base : Nat) (t ty e : TypeId) (i : TypeInfo) (z : Value) (size bytes : Nat) (ht : P.underlying t = some (.slice e)) (hi : P.info? e = some i) (hz : i.zero = some z)
    (hsize : i.size = size) (hby : i.bytes = bytes) (hzs : z.cells.size = size) (hsz : 0 < size) (v : Value) (n : Nat) (xs : List Value) (hown : w.ownsRow base e size v n xs)
    (a : Addr) (m c : Nat) (news : List Value) (hl : news.length = m * size) (hnews : ∀ j u, news[j]? = some u → w.cell? (a.add j) = some u) (h1 : ∀ u ∈ news, u.oneCell' = true)
    (h63 : n + m ≤ maxLen) (hbytes : (n + m) * bytes ≤ 140737488355328) (hbase : base ≤ w.heap.size) :
    ∃ v' w', (Builtin.append_ #[t, t] ty #[v, .slice (some a) m c]).run P w = .ok v' w' ∧ w'.ownsRow base e size v' (n + m) (xs ++ news) ∧ w.grownBy w' v.ownBlock ∧
      (v'.ownBlock = v.ownBlock ∨ v'.ownBlock = some w.heap.size) ∧ ∀ g, v.ownBlock = some g → ∀ j u, xs[j]? = some u → w'.cell? ⟨g, j, none⟩ = some u := by
  obtain ⟨v', w', hr, r1, r2, _, r4⟩ := run_append_own_at (P := P) w base t ty e i z size bytes ht hi hz hsize hby hzs hsz v n xs hown a m c news hl hnews h1 h63 hbytes hbase
  refine ⟨v', w', hr, r1, r2, r4, fun g hg j u hj => ?_⟩
  have hadd : ∀ q : Nat, (⟨g, 0, none⟩ : Addr).add q = ⟨g, q, none⟩ := fun q => by unfold Addr.add; split <;> simp_all
  have hjl : j < xs.length := (List.getElem?_eq_some_iff.1 hj).1
  by_cases hv : v'.ownBlock = some g
  · have h2 := r1.cells hv j u (by rw [List.getElem?_append_left hjl]; exact hj)
    rwa [hadd] at h2
  · have h2 := hown.cells hg j u hj
    rw [hadd] at h2
    refine (World.cell?_of_block (a := ⟨g, j, none⟩) ?_).trans h2
    rcases hown.2 with ⟨h0, _⟩ | ⟨g', cap, cur, h0, _, hh, hnc, hcm, hcs, _⟩
    · rw [h0] at hg
      cases hg
    · subst h0
      have hgg : g' = g := by simpa [Value.ownBlock] using hg
      subst hgg
      subst hsize
      by_cases hroom : n + m ≤ cap
      · have hfit : n * i.size + news.length ≤ cur.size := by rw [hl, hcs, ← Nat.add_mul]; exact Nat.mul_le_mul_right _ hroom
        have hr2 := run_append_room (P := P) w t ty e i ht hi g' n cap cur hh a m c news hl hnews h1 hroom hfit
        rw [hr] at hr2
        injection hr2 with e1 _
        exact absurd (by rw [e1]; rfl) hv
      · have hr2 := run_append_grow (P := P) w t ty e i z ht hi hz ⟨g', 0, none⟩ n cap xs hown.1 (hown.cells (g := g') rfl) a m c news hl hnews (by omega) (by simp only [maxLen] at h63; omega) (growslice_fits (by omega) (by rw [hby]; exact hbytes))
        rw [hr] at hr2
        injection hr2 with _ e2
        rw [e2]
        exact heap_alloc_old w.drew _ (lt_of_block hh)

theorem wpList_append_keeps {P : Program} (w : World) {ops : Array Oper} {rest : List Oper} {o : Oper} {a : Act} {Q : Exit → Act → World → Prop} (hgd : o.guard = none) (s x : Operand) (t : TypeId)
    (ho : o.op = .call { callee := .builtin .append, args := #[s, x], argTypes := #[t, t] })
    (base : Nat) (e : TypeId) (i : TypeInfo) (z : Value) (size bytes : Nat) (ht : P.underlying t = some (.slice e)) (hi : P.info? e = some i) (hz : i.zero = some z)
    (hsize : i.size = size) (hby : i.bytes = bytes) (hzs : z.cells.size = size) (hsz : 0 < size)
    (v : Value) (n : Nat) (xs : List Value) (hs : a.eval s = v) (hown : w.ownsRow base e size v n xs)
    (ad : Addr) (m c : Nat) (news : List Value) (hx : a.eval x = .slice (some ad) m c) (hl : news.length = m * size) (hnews : ∀ j u, news[j]? = some u → w.cell? (ad.add j) = some u) (h1 : ∀ u ∈ news, u.oneCell' = true)
    (h63 : n + m ≤ maxLen) (hbytes : (n + m) * bytes ≤ 140737488355328) (hbase : base ≤ w.heap.size)
    (h : ∀ v' w', w'.ownsRow base e size v' (n + m) (xs ++ news) → w.grownBy w' v.ownBlock → (v'.ownBlock = v.ownBlock ∨ v'.ownBlock = some w.heap.size) → (∀ g, v.ownBlock = some g → ∀ j u, xs[j]? = some u → w'.cell? ⟨g, j, none⟩ = some u) → wpList P ops Q rest (a.put o.dst v') w') :
    wpList P ops Q (o :: rest) a w := by
  refine wpList_plain hgd fun K hK => ?_
  obtain ⟨v', w', hr, h2, h3, h4, h5⟩ := run_append_keeps (P := P) w base t o.type e i z size bytes ht hi hz hsize hby hzs hsz v n xs hown ad m c news hl hnews h1 h63 hbytes hbase
  unfold Oper.wp execOp
  simp only [ho, resolve, invoke, builtin, Sem.run_bind, Sem.run_pure, Result.andThen_ok, List.map_toArray, List.map_cons, List.map_nil, hs, hx, hr]
  exact hK _ _ (h v' w' h2 h3 h4 h5)
/-- Tags behind an append. -/
theorem tag_append {o : Nat → Nat} {v v' : Value} {t H : Nat} (h : Tag o v t) (hat : v'.ownBlock = v.ownBlock ∨ v'.ownBlock = some H) (hl : ∀ g, v.ownBlock = some g → g < H) : Tag (ext o H t) v' t := fun g hg => by
  rcases hat with e | e
  · rw [e] at hg
    exact (ext_lt (hl g hg)).trans (h g hg)
  · rw [e] at hg
    injection hg with hg
    exact ext_ge (by omega)
end Go.Proofs.YtlinolgbpnokcaaGreatDoor.Bk
