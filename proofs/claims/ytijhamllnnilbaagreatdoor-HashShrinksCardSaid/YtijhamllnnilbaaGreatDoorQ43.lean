/- Lemmas of the claim, in their order:
- Where buckets are shrunk no two stand side by side that have room in one. No program in sight.
-/
import Derived.Test.YtijhamllnnilbaaGreatDoorQ40
import Derived.Test.YtijhamllnnilbaaGreatDoorQ35
import Derived.Test.YtijhamllnnilbaaGreatDoorQ29
set_option linter.unusedVariables false
set_option linter.unusedSimpArgs false
namespace Go.Proofs.YtijhamllnnilbaaGreatDoor.Ha
open Go.RowKit Go.Proofs.YtijhamllnnilbaaGreatDoor.Mem Go.Proofs.YtijhamllnnilbaaGreatDoor.Pg Go.Proofs.YtijhamllnnilbaaGreatDoor.Gr Go.Proofs.YtijhamllnnilbaaGreatDoor.Sp
set_option linter.unusedVariables false
set_option linter.unusedSimpArgs false
def Tight : Tri → Prop
 | .leaf _ => True
 | .node z o => (∀ a b, z = .leaf a → o = .leaf b → a.ov = [] → b.ov = [] → 239 < szs a.cells + szs b.cells) ∧ Tight z ∧ Tight o
def TightC (s : Nat) : Tri → Nat → Prop
 | .leaf _, _ => True
 | .node z o, h => (∀ a b, z = .leaf a → o = .leaf b → a.ov = [] → b.ov = [] → 239 < szs a.cells + szs b.cells + s) ∧ ((h % 2 = 0 ∧ TightC s z (h / 2) ∧ Tight o) ∨ (h % 2 = 1 ∧ Tight z ∧ TightC s o (h / 2)))
theorem Tight.toC (s : Nat) : ∀ (t : Tri) (h : Nat), Tight t → TightC s t h
 | .leaf _, _, _ => trivial
 | .node z o, h, ⟨h1, h2, h3⟩ => by
  refine ⟨fun a b e1 e2 a1 b1 => Nat.lt_of_lt_of_le (h1 a b e1 e2 a1 b1) (Nat.le_add_right _ _), ?_⟩
  rcases Nat.mod_two_eq_zero_or_one h with e | e
  · exact .inl ⟨e, Tight.toC s z _ h2, h3⟩
  · exact .inr ⟨e, h2, Tight.toC s o _ h3⟩
theorem upd_node0 (z o : Tri) (h k : Nat) (s : Tri) (e : h % 2 = 0) : (Tri.node z o).upd h (k + 1) s = .node (z.upd (h / 2) k s) o := by
 show (if h % 2 = 0 then _ else _) = _
 rw [if_pos e]
theorem upd_node1 (z o : Tri) (h k : Nat) (s : Tri) (e : h % 2 = 1) : (Tri.node z o).upd h (k + 1) s = .node z (o.upd (h / 2) k s) := by
 show (if h % 2 = 0 then _ else _) = _
 rw [if_neg (by omega)]
theorem at_node0 (z o : Tri) (h : Nat) (e : h % 2 = 0) : (Tri.node z o).at' h = z.at' (h / 2) ∧ (Tri.node z o).dep h = z.dep (h / 2) + 1 := by
 rw [Tri.at_node, Tri.dep_node, if_pos e, if_pos e]; exact ⟨rfl, rfl⟩
theorem at_node1 (z o : Tri) (h : Nat) (e : h % 2 = 1) : (Tri.node z o).at' h = o.at' (h / 2) ∧ (Tri.node z o).dep h = o.dep (h / 2) + 1 := by
 rw [Tri.at_node, Tri.dep_node, if_neg (by omega), if_neg (by omega)]; exact ⟨rfl, rfl⟩
theorem upd_leaf {t : Tri} {h : Nat} {b' a : Lf} (e : t.upd h (t.dep h) (.leaf b') = .leaf a) : a = b' ∧ t = .leaf (t.at' h) := by
 cases t with
 | leaf c =>
  have : Tri.leaf b' = .leaf a := e
  injection this with this
  exact ⟨this.symm, rfl⟩
 | node z o =>
  exfalso
  rcases Nat.mod_two_eq_zero_or_one h with h2 | h2
  · rw [(at_node0 z o h h2).2, upd_node0 _ _ _ _ _ h2] at e; cases e
  · rw [(at_node1 z o h h2).2, upd_node1 _ _ _ _ _ h2] at e; cases e
theorem TightC.spend {s : Nat} (b' : Lf) : ∀ (t : Tri) (h : Nat), TightC s t h → (b'.ov = [] → (t.at' h).ov = [] ∧ szs (t.at' h).cells + s ≤ szs b'.cells) → Tight (t.upd h (t.dep h) (.leaf b'))
 | .leaf b, h, _, _ => trivial
 | .node z o, h, ⟨h1, h2⟩, hb => by
  rcases h2 with ⟨e, h3, h4⟩ | ⟨e, h3, h4⟩
  · rw [(at_node0 z o h e).2, upd_node0 _ _ _ _ _ e]
    rw [(at_node0 z o h e).1] at hb
    refine ⟨fun a b e1 e2 a1 b1 => ?_, TightC.spend b' z (h / 2) h3 hb, h4⟩
    obtain ⟨rfl, e3⟩ := upd_leaf e1
    have h5 := h1 _ b e3 e2 (hb a1).1 b1
    have h6 := (hb a1).2
    omega
  · rw [(at_node1 z o h e).2, upd_node1 _ _ _ _ _ e]
    rw [(at_node1 z o h e).1] at hb
    refine ⟨fun a b e1 e2 a1 b1 => ?_, h3, TightC.spend b' o (h / 2) h4 hb⟩
    obtain ⟨rfl, e3⟩ := upd_leaf e2
    have h5 := h1 a _ e1 e3 a1 (hb b1).1
    have h6 := (hb b1).2
    omega
theorem Tight.lend {s : Nat} (b' : Lf) : ∀ (t : Tri) (h : Nat), Tight t → ((b'.ov = [] → (t.at' h).ov = [] ∧ szs (t.at' h).cells ≤ szs b'.cells + s) ∨ 240 ≤ s) → TightC s (t.upd h (t.dep h) (.leaf b')) h
 | .leaf b, h, _, _ => trivial
 | .node z o, h, ⟨h1, h2, h3⟩, hb => by
  rcases Nat.mod_two_eq_zero_or_one h with e | e
  · rw [(at_node0 z o h e).2, upd_node0 _ _ _ _ _ e]
    rw [(at_node0 z o h e).1] at hb
    refine ⟨fun a b e1 e2 a1 b1 => ?_, .inl ⟨e, Tight.lend b' z (h / 2) h2 hb, h3⟩⟩
    obtain ⟨rfl, e3⟩ := upd_leaf e1
    rcases hb with hb | hb
    · have h5 := h1 _ b e3 e2 (hb a1).1 b1
      have h6 := (hb a1).2
      omega
    · omega
  · rw [(at_node1 z o h e).2, upd_node1 _ _ _ _ _ e]
    rw [(at_node1 z o h e).1] at hb
    refine ⟨fun a b e1 e2 a1 b1 => ?_, .inr ⟨e, h2, Tight.lend b' o (h / 2) h3 hb⟩⟩
    obtain ⟨rfl, e3⟩ := upd_leaf e2
    rcases hb with hb | hb
    · have h5 := h1 a _ e1 e3 a1 (hb b1).1
      have h6 := (hb b1).2
      omega
    · omega
theorem upd_node_ne {t : Tri} {h : Nat} {z o : Tri} {a : Lf} (e : t.upd h (t.dep h) (.node z o) = .leaf a) : False := by
 cases t with
 | leaf c => cases e
 | node z' o' =>
  rcases Nat.mod_two_eq_zero_or_one h with h2 | h2
  · rw [(at_node0 z' o' h h2).2, upd_node0 _ _ _ _ _ h2] at e; cases e
  · rw [(at_node1 z' o' h h2).2, upd_node1 _ _ _ _ _ h2] at e; cases e
theorem TightC.split {s : Nat} (a' b' : Lf) : ∀ (t : Tri) (h : Nat), TightC s t h → 239 < szs a'.cells + szs b'.cells + s → TightC s (t.upd h (t.dep h) (.node (.leaf a') (.leaf b'))) h
 | .leaf b, h, _, hs => by
  show TightC s (.node (.leaf a') (.leaf b')) h
  refine ⟨fun a b e1 e2 _ _ => ?_, ?_⟩
  · injection e1 with e1
    injection e2 with e2
    rw [← e1, ← e2]; exact hs
  · rcases Nat.mod_two_eq_zero_or_one h with e | e
    · exact .inl ⟨e, trivial, trivial⟩
    · exact .inr ⟨e, trivial, trivial⟩
 | .node z o, h, ⟨h1, h2⟩, hs => by
  rcases h2 with ⟨e, h3, h4⟩ | ⟨e, h3, h4⟩
  · rw [(at_node0 z o h e).2, upd_node0 _ _ _ _ _ e]
    exact ⟨fun a b e1 e2 a1 b1 => (upd_node_ne e1).elim, .inl ⟨e, TightC.split a' b' z (h / 2) h3 hs, h4⟩⟩
  · rw [(at_node1 z o h e).2, upd_node1 _ _ _ _ _ e]
    exact ⟨fun a b e1 e2 a1 b1 => (upd_node_ne e2).elim, .inr ⟨e, h3, TightC.split a' b' o (h / 2) h4 hs⟩⟩
theorem szs_filter_two (p : Cel → Bool) : ∀ l : List Cel, szs (l.filter p) + szs (l.filter (fun c => !p c)) = szs l
 | [] => rfl
 | a :: l => by
  have ih := szs_filter_two p l
  by_cases h : p a = true
  · rw [List.filter_cons_of_pos h, List.filter_cons_of_neg (by simp [h])]
    simp only [szs, List.map_cons, List.sum_cons] at ih ⊢
    omega
  · rw [List.filter_cons_of_neg h, List.filter_cons_of_pos (by simp [h])]
    simp only [szs, List.map_cons, List.sum_cons] at ih ⊢
    omega
theorem TightC.grown {x : Cel} {grow : Bool} {t t' : Tri} (h : Grown x grow t t') : ¬ has x.key (t.at' (sumF x.key)).cells → TightC x.sz t (sumF x.key) → TightC x.sz t' (sumF x.key) := by
 induction h with
 | refl => exact fun _ h => h
 | @step t t1 t2 _ hn hov _ hs _ ih =>
  intro hno hT
  have hno1 : ¬ has x.key (t1.at' (sumF x.key)).cells := fun ⟨c, hc, hk⟩ => hno ⟨c, split_sub hs hov hc, hk⟩
  refine ih hno1 ?_
  obtain ⟨m, _, rfl⟩ := hs
  refine TightC.split _ _ t (sumF x.key) hT ?_
  have h1 := hn 0 (t.at' (sumF x.key)).n (t.at' (sumF x.key)).cs rfl
  have hcs := cells_of_cs hov
  rw [szs_ins_new (by rw [← hcs]; exact hno)] at h1
  have h2 := szs_filter_two (bitF (t.dep (sumF x.key))) (t.at' (sumF x.key)).cs
  rw [cells_of_cs rfl, cells_of_cs rfl]
  show 239 < szs ((t.at' (sumF x.key)).cs.filter (bitF (t.dep (sumF x.key)))) + szs ((t.at' (sumF x.key)).cs.filter (fun c => !bitF (t.dep (sumF x.key)) c)) + x.sz
  omega
theorem Tight.set {n D : Nat} {pg : Nat → Pag} {t t' : Tri} {x : Cel} {grow : Bool} (h : Tight t) (T : Tb n pg D t) (hs : SetOk x grow t t') (hsame : ∀ c, c ∈ (t.at' (sumF x.key)).cells → c.key = x.key → c.sz ≤ x.sz) : Tight t' := by
 have hm := t.at_mem (sumF x.key)
 have hkeys := T.keys _ hm
 have hno : ∀ b : Lf, b.ov = [] ↔ b.pgs.length = 1 := fun b => by
  unfold Lf.pgs
  rw [List.length_cons, ← List.length_eq_zero_iff]
  omega
 rcases hs with ⟨j, m, cs, hj, hh, _, rfl⟩ | ⟨t1, hg, ht'⟩
 · have hne : (t.at' (sumF x.key)).pgs.set j (m, ins x cs) ≠ [] := by simp [Lf.pgs]
   refine TightC.spend (s := 0) _ t (sumF x.key) (h.toC 0 t _) fun ho => ?_
   rw [hno, lfOf_pgs hne, List.length_set, ← hno] at ho
   refine ⟨ho, ?_⟩
   obtain ⟨A, B, c1, c2⟩ := cells_set hj (ins x cs)
   have hsort : Sorted cs := (T.fits _ hm _ (List.mem_of_getElem? hj)).sorted
   have h4 : szs (ins x cs) = szs (cutK x.key cs) + x.sz := by rw [← ins_cut hsort, szs_ins_new (has_cut _ _)]
   have hk2 : (cs.map Cel.key).Nodup := by
    rw [Lf.cells_eq, c1, List.map_append, List.map_append, List.nodup_append, List.nodup_append] at hkeys
    exact hkeys.2.1.1
   have h5 := szs_cut_one cs hk2 (fun c hc => hsame c (has_cells hj hc))
   rw [Lf.cells_eq (lfOf _), lfOf_pgs hne, Lf.cells_eq, c1, c2, szs_append, szs_append, szs_append, szs_append]
   omega
 · have hcut : TightC x.sz (cutT x.key t) (sumF x.key) := by
    refine Tight.lend _ t (sumF x.key) h (.inl fun ho => ?_)
    have hne : cutP x.key (t.at' (sumF x.key)).pgs ≠ [] := by simp [cutP, Lf.pgs]
    rw [hno, lfOf_pgs hne, cutP_len, ← hno] at ho
    refine ⟨ho, ?_⟩
    have h4 := szs_cut_one _ hkeys hsame
    rw [Lf.cells_eq (lfOf _), lfOf_pgs hne, cutP_cells]
    rw [Lf.cells_eq] at h4 ⊢
    exact h4
   have hC := TightC.grown hg (cutT_has x.key t) hcut
   have hnk : ¬ has x.key (t1.at' (sumF x.key)).cells := fun ⟨c, hc, hk⟩ => cutT_has x.key t ⟨c, grown_sub hg hc, hk⟩
   rcases ht' with ⟨j, m, cs, hj, _, _, rfl⟩ | ⟨hnf, _, q, _, rfl⟩
   · have hne : (t1.at' (sumF x.key)).pgs.set j (m, ins x cs) ≠ [] := by simp [Lf.pgs]
     refine TightC.spend _ t1 (sumF x.key) hC fun ho => ?_
     rw [hno, lfOf_pgs hne, List.length_set, ← hno] at ho
     refine ⟨ho, ?_⟩
     obtain ⟨A, B, c1, c2⟩ := cells_set hj (ins x cs)
     have h4 : szs (ins x cs) = szs cs + x.sz := szs_ins_new (fun ⟨c, hc, hk⟩ => hnk ⟨c, has_cells hj hc, hk⟩)
     rw [Lf.cells_eq (lfOf _), lfOf_pgs hne, Lf.cells_eq, c1, c2, szs_append, szs_append, szs_append, szs_append]
     omega
   · refine TightC.spend _ t1 (sumF x.key) hC fun ho => ?_
     rw [hno, lfOf_pgs (by simp), List.length_append] at ho
     simp [Lf.pgs] at ho
def Ev (t : Tri) : Prop := ∀ i, (t.at' i).cells = [] → (t.at' i).ov = []
def EvC (h : Nat) (t : Tri) : Prop := ∀ i, ¬ i % 2 ^ t.dep h = h % 2 ^ t.dep h → (t.at' i).cells = [] → (t.at' i).ov = []
theorem EvC.grown {x : Cel} {grow : Bool} {t t' : Tri} (h : Grown x grow t t') : EvC (sumF x.key) t → EvC (sumF x.key) t' := by
 induction h with
 | refl => exact id
 | step _ _ _ _ hs _ ih =>
  intro hE
  refine ih fun i hi hc => ?_
  rcases split_at (i := i) hs with ⟨_, h1⟩ | ⟨h1, h2⟩
  · exact h1
  · rw [h2] at hc ⊢
    exact hE i h1 hc
theorem EvC.put {t : Tri} {h : Nat} (hE : EvC h t) {ps : List (Nat × List Cel)} (hb : (lfOf ps).cells = [] → (lfOf ps).ov = []) : Ev (updB t h ps) := fun i hc => by
 rw [updB_at'] at hc ⊢
 by_cases e : i % 2 ^ t.dep h = h % 2 ^ t.dep h
 · rw [if_pos e] at hc ⊢
   exact hb hc
 · rw [if_neg e] at hc ⊢
   exact hE i e hc
theorem Ev.toC {t : Tri} (h : Ev t) (k : Nat) : EvC k t := fun i _ hc => h i hc
theorem Ev.upd {t : Tri} (h : Ev t) (k : Nat) (ps : List (Nat × List Cel)) : EvC k (updB t k ps) := fun i hi hc => by
 have hd : (updB t k ps).dep k = t.dep k := (at_upd_self t k _).2
 rw [hd] at hi
 rw [updB_at', if_neg hi] at hc ⊢
 exact h i hc
theorem Ev.set {t t' : Tri} {x : Cel} {grow : Bool} (h : Ev t) (hs : SetOk x grow t t') (hx : lookT t' x.key = some x) : Ev t' := by
 have hin : x ∈ (t'.at' (sumF x.key)).cells := (lookF_mem hx).1
 have fin : ∀ (t1 : Tri) (ps : List (Nat × List Cel)), t' = updB t1 (sumF x.key) ps → EvC (sumF x.key) t1 → Ev t' := fun t1 ps e hE => by
  subst e
  refine hE.put fun hc => ?_
  rw [updB_at', if_pos rfl, hc] at hin
  cases hin
 rcases hs with ⟨j, m, cs, hj, hh, _, e⟩ | ⟨t1, hg, ⟨j, m, cs, hj, _, _, e⟩ | ⟨hnf, _, q, _, e⟩⟩
 · exact fin t _ e (h.toC _)
 · exact fin t1 _ e (EvC.grown hg (h.upd _ _))
 · exact fin t1 _ e (EvC.grown hg (h.upd _ _))
theorem TightC.any (b' : Lf) : ∀ (t : Tri) (h d : Nat), t.dep h = d + 1 → TightC 240 t h → TightC 240 (t.upd h d (.leaf b')) h
 | .leaf b, h, d, hd, _ => by simp [Tri.dep] at hd
 | .node z o, h, 0, hd, _ => by rw [Tri.upd_zero]; trivial
 | .node z o, h, d + 1, hd, ⟨h1, h2⟩ => by
  rcases h2 with ⟨e, h3, h4⟩ | ⟨e, h3, h4⟩
  · rw [(at_node0 z o h e).2] at hd
    rw [upd_node0 _ _ _ _ _ e]
    exact ⟨fun a b _ _ _ _ => by omega, .inl ⟨e, TightC.any b' z (h / 2) d (by omega) h3, h4⟩⟩
  · rw [(at_node1 z o h e).2] at hd
    rw [upd_node1 _ _ _ _ _ e]
    exact ⟨fun a b _ _ _ _ => by omega, .inr ⟨e, h3, TightC.any b' o (h / 2) d (by omega) h4⟩⟩
theorem TightC.merged {h : Nat} {t t' : Tri} (hr : Mergd h t t') : TightC 240 t h → TightC 240 t' h := by
 induction hr with
 | refl => exact id
 | step d a b m hd hs hm _ ih => exact fun hT => ih (TightC.any _ _ _ d hd hT)
theorem sib_step (d h : Nat) : sibF (d + 1) h % 2 = h % 2 ∧ sibF (d + 1) h / 2 = sibF d (h / 2) := by
 have hp : 2 ^ (d + 1) = 2 ^ d * 2 := Nat.pow_succ ..
 obtain ⟨a1, a2⟩ := Tri.half_mod h d
 have h3 : h / 2 ^ (d + 1) = h / 2 / 2 ^ d := by rw [Nat.div_div_eq_div_mul, hp, Nat.mul_comm]
 unfold sibF
 rw [h3]
 generalize h % 2 ^ (d + 1) = r at *
 split <;> omega
theorem TightC.stop : ∀ (t : Tri) (h : Nat), TightC 240 t h → Stop h t → Tight t
 | .leaf b, h, _, _ => trivial
 | .node z o, h, ⟨h1, h2⟩, hs => by
  have up : ∀ (y : Tri), (∀ i, i % 2 = h % 2 → (Tri.node z o).at' i = y.at' (i / 2) ∧ (Tri.node z o).dep i = y.dep (i / 2) + 1) → y.dep (h / 2) ≠ 0 → Stop (h / 2) y := fun y hy hne => by
   obtain ⟨hy1, hy2⟩ := hy h rfl
   rcases hs with hs | hs | ⟨d, hd, hs⟩
   · omega
   · rw [hy1] at hs; exact .inr (.inl hs)
   · cases d with
     | zero => omega
     | succ d =>
      obtain ⟨s1, s2⟩ := sib_step d h
      obtain ⟨g1, g2⟩ := hy (sibF (d + 1) h) s1
      rw [g1, g2, s2, hy1] at hs
      exact .inr (.inr ⟨d, by omega, by
       rcases hs with hs | hs
       · exact .inl (by omega)
       · exact .inr hs⟩)
  have s0 : sibF 0 h = if h % 2 = 0 then 1 else 0 := by simp [sibF, Nat.mod_one]
  rcases h2 with ⟨e, h3, h4⟩ | ⟨e, h3, h4⟩
  · have hy := fun i (hi : i % 2 = h % 2) => at_node0 z o i (by omega)
    cases z with
    | leaf c =>
     refine ⟨fun a b e1 e2 a1 b1 => ?_, trivial, h4⟩
     injection e1 with e1
     subst e1 e2
     rcases hs with hs | hs | ⟨d, hd, hs⟩
     · rw [(hy h rfl).2] at hs; omega
     · rw [(hy h rfl).1] at hs; exact absurd a1 hs
     · rw [(hy h rfl).2] at hd
       obtain rfl : d = 0 := by simp [Tri.dep] at hd; omega
       rw [s0, if_pos e, (hy h rfl).1, (at_node1 _ _ 1 rfl).1, (at_node1 _ _ 1 rfl).2] at hs
       rcases hs with hs | hs | hs
       · exact absurd rfl hs
       · exact absurd b1 hs
       · exact hs
    | node z1 o1 => exact ⟨(fun a b e1 _ _ _ => by cases e1), TightC.stop _ (h / 2) h3 (up _ hy (by rw [Tri.dep_node]; split <;> omega)), h4⟩
  · have hy := fun i (hi : i % 2 = h % 2) => at_node1 z o i (by omega)
    cases o with
    | leaf c =>
     refine ⟨fun a b e1 e2 a1 b1 => ?_, h3, trivial⟩
     injection e2 with e2
     subst e1 e2
     rcases hs with hs | hs | ⟨d, hd, hs⟩
     · rw [(hy h rfl).2] at hs; omega
     · rw [(hy h rfl).1] at hs; exact absurd b1 hs
     · rw [(hy h rfl).2] at hd
       obtain rfl : d = 0 := by simp [Tri.dep] at hd; omega
       rw [s0, if_neg (by omega), (hy h rfl).1, (at_node0 _ _ 0 rfl).1, (at_node0 _ _ 0 rfl).2] at hs
       rcases hs with hs | hs | hs
       · exact absurd rfl hs
       · exact absurd a1 hs
       · rw [Nat.add_comm]; exact hs
    | node z1 o1 => exact ⟨(fun a b _ e2 _ _ => by cases e2), h3, TightC.stop _ (h / 2) h4 (up _ hy (by rw [Tri.dep_node]; split <;> omega))⟩
theorem Ev.merged {h : Nat} {t t' : Tri} (hr : Mergd h t t') : Ev t → Ev t' := by
 induction hr with
 | refl => exact id
 | @step t t2 d a b m hd hs hm _ ih =>
  intro hE
  refine ih fun i hc => ?_
  rw [Tri.at_upd _ _ _ h i (by omega)] at hc ⊢
  by_cases e : i % 2 ^ d = h % 2 ^ d
  · rw [if_pos e]; rfl
  · rw [if_neg e] at hc ⊢
    exact hE i hc
theorem tid_ev (ps : List (Nat × List Cel)) (hp : ps ≠ []) : (lfOf (tidP ps)).cells = [] → (lfOf (tidP ps)).ov = [] := fun hc => by
 rw [Lf.cells_eq, lfOf_pgs (tidP_ne hp)] at hc
 cases ps with
 | nil => exact absurd rfl hp
 | cons p r =>
  show r.filter (fun q => !q.2.isEmpty) = []
  rw [List.filter_eq_nil_iff]
  intro q hq hne
  have h1 : ∀ c, c ∈ q.2 → False := fun c hcq => by
   have : c ∈ cellsP (tidP (p :: r)) := List.mem_flatMap.2 ⟨q, List.mem_cons_of_mem _ (List.mem_filter.2 ⟨hq, hne⟩), hcq⟩
   rw [hc] at this
   cases this
  have h2 : q.2 = [] := List.eq_nil_iff_forall_not_mem.2 (fun c h => h1 c h)
  rw [h2] at hne
  simp at hne
def CutSh (k : List UInt8) (t t' : Tri) : Prop := Mergd (sumF k) (updB (cutT k t) (sumF k) (tidP ((cutT k t).at' (sumF k)).pgs)) t' ∧ Stop (sumF k) t'
theorem Tight.cutSh {k : List UInt8} {t t' : Tri} (h : Tight t) (hc : CutSh k t t') : Tight t' := by
 refine TightC.stop _ _ (TightC.merged hc.1 ?_) hc.2
 unfold cutT
 rw [updB_twice]
 exact Tight.lend _ t (sumF k) h (.inr (Nat.le_refl _))
theorem Ev.cutSh {k : List UInt8} {t t' : Tri} (h : Ev t) (hc : CutSh k t t') : Ev t' := by
 refine Ev.merged hc.1 ?_
 unfold cutT
 rw [updB_twice]
 exact (h.toC _).put (tid_ev _ (by simp [Lf.pgs]))
theorem tight_leaf : ∀ (t : Tri), Tight t → (∀ b, b ∈ t.leaves → b.cells = [] ∧ b.ov = []) → ∃ b, t = .leaf b
 | .leaf b, _, _ => ⟨b, rfl⟩
 | .node z o, ⟨h1, h2, h3⟩, he => by
  obtain ⟨a, rfl⟩ := tight_leaf z h2 (fun b hb => he b (List.mem_append_left _ hb))
  obtain ⟨c, rfl⟩ := tight_leaf o h3 (fun b hb => he b (List.mem_append_right _ hb))
  have ha := he a (by simp [Tri.leaves])
  have hb := he c (by simp [Tri.leaves])
  have := h1 a c rfl rfl ha.2 hb.2
  rw [ha.1, hb.1] at this
  simp [szs] at this
theorem all_gone {t : Tri} (h : Tight t) (hE : Ev t) (hc : cellsT t = []) : t.height = 0 ∧ (numsF t.leaves).length = 1 := by
 have he : ∀ b, b ∈ t.leaves → b.cells = [] ∧ b.ov = [] := fun b hb => by
  have h1 : b.cells = [] := List.eq_nil_iff_forall_not_mem.2 (fun c hcb => by
   have : c ∈ cellsT t := List.mem_flatMap.2 ⟨b, hb, hcb⟩
   rw [hc] at this
   cases this)
  obtain ⟨i, _, rfl⟩ := Tri.mem_at t b hb
  exact ⟨h1, hE i h1⟩
 obtain ⟨b, rfl⟩ := tight_leaf t h he
 refine ⟨rfl, ?_⟩
 have h2 := (he b (List.mem_singleton.2 rfl)).2
 show (numsF [b]).length = 1
 simp [numsF, nums_of_n h2]
theorem tight00 : Tight t00 := trivial
theorem ev00 : Ev t00 := fun i _ => rfl
end Go.Proofs.YtijhamllnnilbaaGreatDoor.Ha
