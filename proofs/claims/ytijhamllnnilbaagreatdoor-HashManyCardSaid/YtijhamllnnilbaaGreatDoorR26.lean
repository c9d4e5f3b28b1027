/- Lemmas of the claim, in their order:
- The table when a page of a bucket changes. No program in sight.
- What Set does to the table. No program in sight.
-/
import Derived.Test.YtijhamllnnilbaaGreatDoorR25
set_option linter.unusedVariables false
set_option linter.unusedSimpArgs false
namespace Go.Proofs.YtijhamllnnilbaaGreatDoor.Ha
open Go.RowKit Go.Proofs.YtijhamllnnilbaaGreatDoor.Mem Go.Proofs.YtijhamllnnilbaaGreatDoor.Pg Go.Proofs.YtijhamllnnilbaaGreatDoor.Gr Go.Proofs.YtijhamllnnilbaaGreatDoor.Sp
set_option linter.unusedVariables false
set_option linter.unusedSimpArgs false
theorem nextF_set : ∀ (r : List (Nat × List Cel)) (j : Nat) (m : Nat) (cs cs' : List Cel), r[j]? = some (m, cs) → nextF (r.set j (m, cs')) = nextF r
 | [], _, _, _, _, h => by simp at h
 | p :: r, 0, m, cs, cs', h => by simp at h; subst h; rfl
 | p :: r, j + 1, m, cs, cs', _ => rfl
theorem pagsF_set : ∀ (ps : List (Nat × List Cel)) (k d : Int) (j m : Nat) (q : Pag) (cs cs' : List Cel), ps[j]? = some (m, cs) → (pagsF k d ps)[j]? = some (m, q) → pagsF k d (ps.set j (m, cs')) = (pagsF k d ps).set j (m, pagC q cs')
 | [], _, _, _, _, _, _, _, h, _ => by simp at h
 | p :: r, k, d, 0, m, q, cs, cs', h, hq => by
  simp at h; subst h
  simp [pagsF] at hq
  subst hq
  rfl
 | p :: r, k, d, j + 1, m, q, cs, cs', h, hq => by
  simp only [List.getElem?_cons_succ] at h
  simp only [pagsF, List.getElem?_cons_succ] at hq
  simp only [pagsF, List.set_cons_succ, pagsF_set r 4 0 j m q cs cs' h hq, nextF_set r j m cs cs' h]
theorem pagsF_snoc : ∀ (ps : List (Nat × List Cel)) (k d : Int) (l m i : Nat) (q : Pag) (cs : List Cel), l + 1 = ps.length → (pagsF k d ps)[l]? = some (m, q) →
 pagsF k d (ps ++ [(i, cs)]) = (pagsF k d ps).set l (m, ⟨q.k, q.d, i, q.l⟩) ++ [(i, ⟨4, 0, 0, bodyF cs⟩)]
 | [], _, _, _, _, _, _, _, h, _ => by simp at h
 | [p], k, d, 0, m, i, q, cs, h, hq => by
  simp [pagsF] at hq
  obtain ⟨rfl, rfl⟩ := hq
  rfl
 | [p], k, d, l + 1, m, i, q, cs, h, hq => by simp at h
 | p :: a :: r, k, d, 0, m, i, q, cs, h, hq => by simp at h
 | p :: a :: r, k, d, l + 1, m, i, q, cs, h, hq => by
  have h1 : (pagsF 4 0 (a :: r))[l]? = some (m, q) := by simpa [pagsF] using hq
  have h2 := pagsF_snoc (a :: r) 4 0 l m i q cs (by simpa using h) h1
  show (p.1, (⟨k, d, _, bodyF p.2⟩ : Pag)) :: pagsF 4 0 ((a :: r) ++ [(i, cs)]) = _
  rw [h2]
  rfl
variable {n D : Nat} {pg pg' : Nat → Pag} {t s : Tri} {ml ml' : List UInt8} {X : List Nat}
theorem set_nums' {ps : List (Nat × List Cel)} {j m : Nat} {cs cs' : List Cel} (h : ps[j]? = some (m, cs)) : (ps.set j (m, cs')).map (·.1) = ps.map (·.1) := by
 rw [List.map_set]
 refine List.ext_getElem? fun i => ?_
 by_cases hi : j = i
 · subst hi
   have := (List.getElem?_eq_some_iff.1 h).1
   rw [List.getElem?_set_self (by simpa using this), List.getElem?_map, h]; rfl
 · rw [List.getElem?_set_ne hi]
theorem nums_nodup (H : Hs n pg D t ml X) (h : Nat) : (t.at' h).nums.Nodup := by
 obtain ⟨A, B, e⟩ := List.append_of_mem (t.at_mem h)
 have h1 := H.tb.nums
 have h2 : numsF t.leaves = numsF A ++ ((t.at' h).nums ++ numsF B) := by rw [e, numsF_append]; rfl
 rw [h2, List.nodup_append, List.nodup_append] at h1
 exact h1.2.1.1
theorem Hs.setPage (H : Hs n pg D t ml X) (h j m : Nat) (q : Pag) (cs cs' : List Cel) (hj : (t.at' h).pgs[j]? = some (m, cs)) (hq : ((t.at' h).pags (t.dep h))[j]? = some (m, q)) (hf : Fits cs')
 (cells : ∀ c, c ∈ cellsP ((t.at' h).pgs.set j (m, cs')) → sumF c.key % 2 ^ t.dep h = h % 2 ^ t.dep h) (keys : ((cellsP ((t.at' h).pgs.set j (m, cs'))).map Cel.key).Nodup) :
 Hs n (updN pg m (pagC q cs')) D (t.upd h (t.dep h) (.leaf (lfOf ((t.at' h).pgs.set j (m, cs'))))) ml X ∧
  (lfOf ((t.at' h).pgs.set j (m, cs'))).pags (t.dep h) = ((t.at' h).pags (t.dep h)).set j (m, pagC q cs') := by
 have hne : (t.at' h).pgs.set j (m, cs') ≠ [] := fun e => by
  have := congrArg List.length e
  simp [Lf.pgs] at this
 have hpg := lfOf_pgs hne
 have hnums : ((t.at' h).pgs.set j (m, cs')).map (·.1) = (t.at' h).nums := set_nums' hj
 have hpags : (lfOf ((t.at' h).pgs.set j (m, cs'))).pags (t.dep h) = ((t.at' h).pags (t.dep h)).set j (m, pagC q cs') := by
  unfold Lf.pags at hq ⊢
  rw [hpg]
  exact pagsF_set _ _ _ j m q cs cs' hj hq
 have hbn : (lfOf ((t.at' h).pgs.set j (m, cs'))).nums = (t.at' h).nums := by unfold Lf.nums; rw [hpg]; exact hnums
 have hnd := nums_nodup H h
 have hmn : m ∈ (t.at' h).nums := List.mem_map.2 ⟨(m, cs), List.mem_of_getElem? hj, rfl⟩
 have hr := H.tb.rng m (numsF_mem (t.at_mem h) hmn)
 refine ⟨H.leaf h _ (lfOf_n hnums) (fun q' hq' => ?_) (fun p hp => ?_) (fun x hx => .inl (by rw [hbn] at hx; exact hx)) (by rw [hbn]; exact hnd) (fun c hc => cells c (by rw [Lf.cells_eq, hpg] at hc; exact hc)) (by rw [Lf.cells_eq, hpg]; exact keys)
  (updN_other _ _ (by omega)) (by rw [updN_other _ _ (by omega)]; exact H.map) H.is (fun x h1 h2 => updN_other _ _ (fun e => h2 (e ▸ hmn))) (fun x h2 hx => ?_), hpags⟩
 · rw [hpags] at hq'
   obtain ⟨i, hi⟩ := List.mem_iff_getElem?.1 hq'
   by_cases e : j = i
   · subst e
     rw [List.getElem?_set_self (List.getElem?_eq_some_iff.1 hq).1] at hi
     injection hi with hi
     subst hi
     exact updN_same ..
   · rw [List.getElem?_set_ne e] at hi
     have h1 : q'.1 ≠ m := fun e1 => by
      have h2 : (t.at' h).nums[i]? = some q'.1 := by
       have := congrArg (Option.map (·.1)) hi
       rw [← List.getElem?_map] at this
       unfold Lf.pags at this
       rw [pagsF_nums] at this
       exact this
      have h3 : (t.at' h).nums[j]? = some m := by
       have := congrArg (Option.map (·.1)) hj
       rw [← List.getElem?_map] at this
       exact this
      rw [e1] at h2
      exact e ((List.getElem?_inj (List.getElem?_eq_some_iff.1 h3).1 hnd).1 (h3.trans h2.symm))
     rw [updN_other _ _ h1]
     exact H.tb.shown h q' (List.mem_of_getElem? hi)
 · rw [hpg] at hp
   rcases List.mem_or_eq_of_mem_set hp with h1 | rfl
   · exact H.tb.fits _ (t.at_mem h) p h1
   · exact hf
 · rw [hbn]
   constructor
   · intro h1
     by_cases h3 : x ∈ (t.at' h).nums
     · exact .inr h3
     · exact .inl ⟨h1, h3⟩
   · rintro (h1 | h1)
     · exact h1.1
     · exact (H.used x h2 hx).2 (.inl (numsF_mem (t.at_mem h) h1))
theorem lead_mod (H : Hs n pg D t ml X) (h : Nat) {c : Cel} (hc : c ∈ (t.at' h).cells) : sumF c.key % 2 ^ t.dep h = h % 2 ^ t.dep h := by
 have h1 := H.tb.lead _ (t.at_mem h) c hc
 have h2 := H.tb.inj h (sumF c.key) (by rw [h1])
 exact h2.2.2.symm
theorem Hs.cut (H : Hs n pg D t ml X) (k : List UInt8) (j m : Nat) (q : Pag) (cs : List Cel) (hj : (t.at' (sumF k)).pgs[j]? = some (m, cs)) (hq : ((t.at' (sumF k)).pags (t.dep (sumF k)))[j]? = some (m, q)) (hh : has k cs) :
 Hs n (updN pg m (pagC q (cutK k cs))) D (t.upd (sumF k) (t.dep (sumF k)) (.leaf (lfOf (cutP k (t.at' (sumF k)).pgs)))) ml X ∧
  (lfOf (cutP k (t.at' (sumF k)).pgs)).pags (t.dep (sumF k)) = ((t.at' (sumF k)).pags (t.dep (sumF k))).set j (m, pagC q (cutK k cs)) := by
 have hkeys := H.tb.keys _ (t.at_mem (sumF k))
 have e := cutP_set hj (by rw [← Lf.cells_eq]; exact hkeys) hh
 have hs := H.setPage (sumF k) j m q cs (cutK k cs) hj hq ((H.tb.fits _ (t.at_mem _) _ (List.mem_of_getElem? hj)).cut k) (fun c hc => ?_) ?_
 · rw [e] at hs; exact hs
 · rw [e, cutP_cells] at hc
   exact lead_mod H _ (mem_cut.1 hc).1
 · rw [e, cutP_cells]
   exact cut_nodup hkeys
theorem look_cut (H : Hs n pg D t ml X) (k k' : List UInt8) : lookT (t.upd (sumF k) (t.dep (sumF k)) (.leaf (lfOf (cutP k (t.at' (sumF k)).pgs)))) k' = if k' = k then none else lookT t k' := by
 rw [lookT_upd]
 have hc : (lfOf (cutP k (t.at' (sumF k)).pgs)).cells = cutK k (t.at' (sumF k)).cells := by
  rw [Lf.cells_eq, lfOf_pgs (by simp [cutP, Lf.pgs]), cutP_cells]; rfl
 by_cases e : sumF k' % 2 ^ t.dep (sumF k) = sumF k % 2 ^ t.dep (sumF k)
 · rw [if_pos e, hc, lookF_cut]
   unfold lookT
   rw [(at_same t _ _ e).1]
 · rw [if_neg e, if_neg (fun h => e (by rw [h]))]
theorem upd_upd : ∀ (k : Nat) (t : Tri) (h : Nat) (s s' : Tri), k ≤ t.dep h → (t.upd h k s).upd h k s' = t.upd h k s'
 | 0, t, h, s, s', _ => by rw [Tri.upd_zero, Tri.upd_zero]
 | k + 1, .leaf b, h, s, s', hk => by simp [Tri.dep] at hk
 | k + 1, .node z o, h, s, s', hk => by
  rw [Tri.dep_node] at hk
  by_cases e : h % 2 = 0
  · rw [if_pos e] at hk
    simp only [Tri.upd, if_pos e, upd_upd k z (h / 2) s s' (by omega)]
  · rw [if_neg e] at hk
    simp only [Tri.upd, if_neg e, upd_upd k o (h / 2) s s' (by omega)]
theorem updN_twice (pg : Nat → Pag) (m : Nat) (a b : Pag) : updN (updN pg m a) m b = updN pg m b := by
 funext j; unfold updN; split <;> rfl
theorem at_upd_self (t : Tri) (h : Nat) (b : Lf) : (t.upd h (t.dep h) (.leaf b)).at' h = b ∧ (t.upd h (t.dep h) (.leaf b)).dep h = t.dep h := by
 rw [Tri.at_upd _ _ t h h (Nat.le_refl _), Tri.dep_upd _ _ t h h (Nat.le_refl _), if_pos rfl, if_pos rfl]
 exact ⟨rfl, rfl⟩
theorem Hs.ins (H : Hs n pg D t ml X) (x : Cel) (hx : x.ok) (j m : Nat) (q : Pag) (cs : List Cel) (hj : (t.at' (sumF x.key)).pgs[j]? = some (m, cs)) (hq : ((t.at' (sumF x.key)).pags (t.dep (sumF x.key)))[j]? = some (m, q))
 (hh : ¬ has x.key (t.at' (sumF x.key)).cells) (hr : szs (Ha.ins x cs) ≤ 239) :
 Hs n (updN pg m (pagC q (Ha.ins x cs))) D (t.upd (sumF x.key) (t.dep (sumF x.key)) (.leaf (lfOf ((t.at' (sumF x.key)).pgs.set j (m, Ha.ins x cs))))) ml X ∧
  (lfOf ((t.at' (sumF x.key)).pgs.set j (m, Ha.ins x cs))).pags (t.dep (sumF x.key)) = ((t.at' (sumF x.key)).pags (t.dep (sumF x.key))).set j (m, pagC q (Ha.ins x cs)) ∧
  ∀ k, lookT (t.upd (sumF x.key) (t.dep (sumF x.key)) (.leaf (lfOf ((t.at' (sumF x.key)).pgs.set j (m, Ha.ins x cs))))) k = if k = x.key then some x else lookT t k := by
 have hkeys := H.tb.keys _ (t.at_mem (sumF x.key))
 have hno : ¬ has x.key cs := fun ⟨c, h1, h2⟩ => hh ⟨c, has_cells hj h1, h2⟩
 have hp := cells_ins (x := x) hj hno
 have hn2 : ((x :: cellsP (t.at' (sumF x.key)).pgs).map Cel.key).Nodup := by
  rw [List.map_cons, List.nodup_cons]
  refine ⟨fun h => ?_, hkeys⟩
  obtain ⟨c, h1, h2⟩ := List.mem_map.1 h
  exact hh ⟨c, h1, h2⟩
 have hs := H.setPage (sumF x.key) j m q cs (Ha.ins x cs) hj hq ((H.tb.fits _ (t.at_mem _) _ (List.mem_of_getElem? hj)).ins hx hr) (fun c hc => ?_) ((hp.map Cel.key).nodup_iff.2 hn2)
 · refine ⟨hs.1, hs.2, fun k => ?_⟩
   rw [lookT_upd]
   by_cases e : sumF k % 2 ^ t.dep (sumF x.key) = sumF x.key % 2 ^ t.dep (sumF x.key)
   · rw [if_pos e, Lf.cells_eq, lfOf_pgs (by simp [Lf.pgs])]
     rw [lookF_set (x := x) (l := cellsP (t.at' (sumF x.key)).pgs) (by rw [show cutK x.key (cellsP (t.at' (sumF x.key)).pgs) = cellsP (t.at' (sumF x.key)).pgs from cut_none hh]; exact hp) hkeys]
     unfold lookT
     rw [(at_same t _ _ e).1]; rfl
   · rw [if_neg e, if_neg (fun h => e (by rw [h]))]
 · rcases List.mem_cons.1 (hp.mem_iff.1 hc) with h1 | h1
   · rw [h1]
   · exact lead_mod H _ h1
theorem Hs.free (H : Hs n pg D t ml X) {i : Nat} (hi : takeI 2 ml = i) : 2 ≤ i ∧ i < n ∧ i ∉ numsF t.leaves ∧ i ∉ X ∧ IsMap n (ml.set i 1) ∧ ∀ m, bt (ml.set i 1) m = if m = i then 1 else bt ml m := by
 rcases takeI_map H.is with ⟨h1, _⟩ | ⟨j, h1, h2, h3, h4, _⟩
 · rw [h1] at hi; omega
 · have : j = i := by rw [h1] at hi; omega
   subst this
   have hu := H.used j h2 h3
   rw [h4] at hu
   have hno : ¬ (j ∈ numsF t.leaves ∨ j ∈ X) := fun h => by have := hu.2 h; omega
   refine ⟨h2, h3, fun h => hno (.inl h), fun h => hno (.inr h), H.is.set j 1 h2 h3 (.inl rfl), fun m => ?_⟩
   rw [bt_set _ _ _ (by have := H.is.len; have := H.is.le; omega)]
   by_cases e : j = m
   · rw [if_pos e, if_pos e.symm]; rfl
   · rw [if_neg e, if_neg (fun h => e h.symm)]
theorem Hs.more (H : Hs n pg D t ml X) (x : Cel) (hx : x.ok) (l m i : Nat) (q : Pag) (hl : l + 1 = (t.at' (sumF x.key)).pgs.length) (hq : ((t.at' (sumF x.key)).pags (t.dep (sumF x.key)))[l]? = some (m, q))
 (hh : ¬ has x.key (t.at' (sumF x.key)).cells) (hf1 : Fits [x]) (hi : takeI 2 ml = i) {md mx : Int} (hp1 : pg 1 = ⟨2, md, mx, ml⟩) :
 Hs n (updN (updN (updN pg 1 ⟨2, md, mx, ml.set i 1⟩) m ⟨q.k, q.d, i, q.l⟩) i ⟨4, 0, 0, bodyF [x]⟩) D (t.upd (sumF x.key) (t.dep (sumF x.key)) (.leaf (lfOf ((t.at' (sumF x.key)).pgs ++ [(i, [x])])))) (ml.set i 1) X ∧
  ∀ k, lookT (t.upd (sumF x.key) (t.dep (sumF x.key)) (.leaf (lfOf ((t.at' (sumF x.key)).pgs ++ [(i, [x])])))) k = if k = x.key then some x else lookT t k := by
 obtain ⟨f2, fn, fl, fX, fm, fb⟩ := H.free hi
 have hkeys := H.tb.keys _ (t.at_mem (sumF x.key))
 have hpg : (lfOf ((t.at' (sumF x.key)).pgs ++ [(i, [x])])).pgs = (t.at' (sumF x.key)).pgs ++ [(i, [x])] := lfOf_pgs (by simp)
 have hbn : (lfOf ((t.at' (sumF x.key)).pgs ++ [(i, [x])])).nums = (t.at' (sumF x.key)).nums ++ [i] := by unfold Lf.nums; rw [hpg, List.map_append]; rfl
 have hcs : (lfOf ((t.at' (sumF x.key)).pgs ++ [(i, [x])])).cells = (t.at' (sumF x.key)).cells ++ [x] := by rw [Lf.cells_eq, hpg, cellsP_append]; rfl
 have hpags : (lfOf ((t.at' (sumF x.key)).pgs ++ [(i, [x])])).pags (t.dep (sumF x.key)) = ((t.at' (sumF x.key)).pags (t.dep (sumF x.key))).set l (m, ⟨q.k, q.d, i, q.l⟩) ++ [(i, ⟨4, 0, 0, bodyF [x]⟩)] := by
  unfold Lf.pags at hq ⊢
  rw [hpg]
  exact pagsF_snoc _ _ _ l m i q [x] hl hq
 have hnd := nums_nodup H (sumF x.key)
 have hnl : (t.at' (sumF x.key)).nums[l]? = some m := by
  have := congrArg (Option.map (·.1)) hq
  rw [← List.getElem?_map] at this
  unfold Lf.pags at this
  rw [pagsF_nums] at this
  exact this
 have hmn : m ∈ (t.at' (sumF x.key)).nums := List.mem_of_getElem? hnl
 have hbm : ∀ y, y ∈ (t.at' (sumF x.key)).nums → y ∈ numsF t.leaves := fun y hy => numsF_mem (t.at_mem _) hy
 have hr := H.tb.rng m (hbm m hmn)
 have him : i ≠ m := fun e => fl (hbm i (e ▸ hmn))
 have hperm : ((t.at' (sumF x.key)).cells ++ [x]).Perm (x :: (t.at' (sumF x.key)).cells) := List.perm_append_comm
 have hn2 : ((x :: (t.at' (sumF x.key)).cells).map Cel.key).Nodup := by
  rw [List.map_cons, List.nodup_cons]
  refine ⟨fun h => ?_, hkeys⟩
  obtain ⟨c, h1, h2⟩ := List.mem_map.1 h
  exact hh ⟨c, h1, h2⟩
 refine ⟨H.leaf (sumF x.key) _ (by simp [lfOf, Lf.pgs]) (fun q' hq' => ?_) (fun p hp => ?_) (fun y hy => ?_) ?_ (fun c hc => ?_) ?_ ?_ ⟨md, mx, ?_⟩ fm (fun y h1 h2 => ?_) (fun y h2 hy => ?_), fun k => ?_⟩
 · rw [hpags] at hq'
   rcases List.mem_append.1 hq' with h1 | h1
   · obtain ⟨a, ha⟩ := List.mem_iff_getElem?.1 h1
     by_cases e : l = a
     · subst e
       rw [List.getElem?_set_self (List.getElem?_eq_some_iff.1 hq).1] at ha
       injection ha with ha
       subst ha
       rw [updN_other _ _ (fun h => him h.symm), updN_same]
     · rw [List.getElem?_set_ne e] at ha
       have h2 : (t.at' (sumF x.key)).nums[a]? = some q'.1 := by
        have := congrArg (Option.map (·.1)) ha
        rw [← List.getElem?_map] at this
        unfold Lf.pags at this
        rw [pagsF_nums] at this
        exact this
       have hqn := List.mem_of_getElem? h2
       have h3 : q'.1 ≠ m := fun e1 => by
        rw [e1] at h2
        exact e ((List.getElem?_inj (List.getElem?_eq_some_iff.1 hnl).1 hnd).1 (hnl.trans h2.symm))
       have h4 : q'.1 ≠ i := fun e1 => fl (hbm i (e1 ▸ hqn))
       have h5 := H.tb.rng _ (hbm _ hqn)
       rw [updN_other _ _ h4, updN_other _ _ h3, updN_other _ _ (by omega)]
       exact H.tb.shown _ q' (List.mem_of_getElem? ha)
   · rw [List.mem_singleton.1 h1]; exact updN_same ..
 · rw [hpg] at hp
   rcases List.mem_append.1 hp with h1 | h1
   · exact H.tb.fits _ (t.at_mem _) p h1
   · rw [List.mem_singleton.1 h1]; exact hf1
 · rw [hbn] at hy
   rcases List.mem_append.1 hy with h1 | h1
   · exact .inl h1
   · rw [List.mem_singleton.1 h1]; exact .inr ⟨f2, fn, fl, fX⟩
 · rw [hbn, List.nodup_append]
   exact ⟨hnd, by simp, fun a ha b hb e => by rw [List.mem_singleton.1 hb] at e; exact fl (hbm i (e ▸ ha))⟩
 · rw [hcs] at hc
   rcases List.mem_append.1 hc with h1 | h1
   · exact lead_mod H _ h1
   · rw [List.mem_singleton.1 h1]
 · rw [hcs]
   exact (hperm.map Cel.key).nodup_iff.2 hn2
 · rw [updN_other _ _ (by omega), updN_other _ _ (by omega), updN_other _ _ (by omega)]
 · rw [updN_other _ _ (by omega), updN_other _ _ (by omega), updN_same]
 · have h3 := H.tb.rng y h1
   have h4 : y ≠ i := fun e => fl (e ▸ h1)
   have h5 : y ≠ m := fun e => h2 (e ▸ hmn)
   rw [updN_other _ _ h4, updN_other _ _ h5, updN_other _ _ (by omega)]
 · rw [fb y, hbn, List.mem_append, List.mem_singleton]
   by_cases e : y = i
   · rw [if_pos e]; exact ⟨fun _ => .inr (.inr e), fun _ => rfl⟩
   · rw [if_neg e]
     constructor
     · intro h1
       by_cases h3 : y ∈ (t.at' (sumF x.key)).nums
       · exact .inr (.inl h3)
       · exact .inl ⟨h1, h3⟩
     · rintro (h1 | h1 | h1)
       · exact h1.1
       · exact (H.used y h2 hy).2 (.inl (hbm y h1))
       · exact absurd h1 e
 · rw [lookT_upd]
   by_cases e : sumF k % 2 ^ t.dep (sumF x.key) = sumF x.key % 2 ^ t.dep (sumF x.key)
   · rw [if_pos e, hcs, lookF_set (x := x) (l := (t.at' (sumF x.key)).cells) (by rw [cut_none hh]; exact hperm) hkeys]
     unfold lookT
     rw [(at_same t _ _ e).1]
   · rw [if_neg e, if_neg (fun h => e (by rw [h]))]
end Go.Proofs.YtijhamllnnilbaaGreatDoor.Ha
namespace Go.Proofs.YtijhamllnnilbaaGreatDoor.Ha
open Go.RowKit Go.Proofs.YtijhamllnnilbaaGreatDoor.Mem Go.Proofs.YtijhamllnnilbaaGreatDoor.Pg Go.Proofs.YtijhamllnnilbaaGreatDoor.Gr Go.Proofs.YtijhamllnnilbaaGreatDoor.Sp
set_option linter.unusedVariables false
set_option linter.unusedSimpArgs false
structure St (w0 w : World) (gb mb sb qb c n : Nat) (pg : Nat → Pag) (D : Nat) (t : Tri) (ml : List UInt8) (X : List Nat) (tk0 : Int) : Prop where
 gv : GV w0 w gb mb sb qb c n pg (tk0 + ((numsF t.leaves).length : Int))
 hs : Hs n pg D t ml X
def updB (t : Tri) (h : Nat) (ps : List (Nat × List Cel)) : Tri := t.upd h (t.dep h) (.leaf (lfOf ps))
def cutT (k : List UInt8) (t : Tri) : Tri := updB t (sumF k) (cutP k (t.at' (sumF k)).pgs)
def bitF (d : Nat) (c : Cel) : Bool := sumF c.key / 2 ^ d % 2 = 0
def SplitTri (h : Nat) (t t' : Tri) : Prop := ∃ m, m ∉ numsF t.leaves ∧ t' = t.upd h (t.dep h) (.node (.leaf ⟨(t.at' h).n, (t.at' h).cs.filter (bitF (t.dep h)), []⟩) (.leaf ⟨m, (t.at' h).cs.filter (fun c => !bitF (t.dep h) c), []⟩))
inductive Grown (x : Cel) (grow : Bool) : Tri → Tri → Prop
 | refl (t : Tri) : Grown x grow t t
 | step {t t1 t2 : Tri} (hg : grow = true) (hn : NoFit x (t.at' (sumF x.key)).pgs) (hov : (t.at' (sumF x.key)).ov = []) (hd : t.dep (sumF x.key) < 5) (hs : SplitTri (sumF x.key) t t1) (hr : Grown x grow t1 t2) : Grown x grow t t2
theorem Grown.last {x : Cel} {grow : Bool} {t t1 t2 : Tri} (h : Grown x grow t t1) (hg : grow = true) (hn : NoFit x (t1.at' (sumF x.key)).pgs) (hov : (t1.at' (sumF x.key)).ov = []) (hd : t1.dep (sumF x.key) < 5) (hs : SplitTri (sumF x.key) t1 t2) : Grown x grow t t2 := by
 induction h with
 | refl t => exact .step hg hn hov hd hs (.refl _)
 | step a b c d e _ ih => exact .step a b c d e (ih hn hov hd hs)
def SetOk (x : Cel) (grow : Bool) (t t' : Tri) : Prop :=
 (∃ j m cs, (t.at' (sumF x.key)).pgs[j]? = some (m, cs) ∧ has x.key cs ∧ szs (ins x cs) ≤ 239 ∧ t' = updB t (sumF x.key) ((t.at' (sumF x.key)).pgs.set j (m, ins x cs))) ∨
 (∃ t1, Grown x grow (cutT x.key t) t1 ∧
  ((∃ j m cs, (t1.at' (sumF x.key)).pgs[j]? = some (m, cs) ∧ szs (ins x cs) ≤ 239 ∧ (∀ i, i < j → ∀ (m : Nat) (cs : List Cel), (t1.at' (sumF x.key)).pgs[i]? = some (m, cs) → ¬ szs (ins x cs) ≤ 239) ∧ t' = updB t1 (sumF x.key) ((t1.at' (sumF x.key)).pgs.set j (m, ins x cs))) ∨
   (NoFit x (t1.at' (sumF x.key)).pgs ∧ (grow = false ∨ 5 ≤ t1.dep (sumF x.key) ∨ (t1.at' (sumF x.key)).ov ≠ []) ∧ ∃ i, i ∉ numsF t1.leaves ∧ t' = updB t1 (sumF x.key) ((t1.at' (sumF x.key)).pgs ++ [(i, [x])]))))
theorem numsF_upd_len (t : Tri) (h k : Nat) (s : Tri) (hk : k ≤ t.dep h) : (numsF (t.upd h k s).leaves).length + (numsF (t.sub h k).leaves).length = (numsF t.leaves).length + (numsF s.leaves).length := by
 obtain ⟨L, R, e1, e2⟩ := Tri.leaves_upd k t h hk
 rw [e2 s, e1]
 simp only [numsF_append, List.length_append]
 omega
theorem updB_len (t : Tri) (h : Nat) (ps : List (Nat × List Cel)) (hp : ps ≠ []) : (numsF (updB t h ps).leaves).length + (t.at' h).pgs.length = (numsF t.leaves).length + ps.length := by
 have h1 := numsF_upd_len t h (t.dep h) (.leaf (lfOf ps)) (Nat.le_refl _)
 rw [Tri.sub_dep] at h1
 have h2 : ∀ b : Lf, (numsF [b]).length = b.pgs.length := fun b => by simp [numsF, Lf.nums]
 have h3 := h2 (lfOf ps)
 rw [lfOf_pgs hp] at h3
 have h4 := h2 (t.at' h)
 unfold updB
 show (numsF (t.upd h (t.dep h) (.leaf (lfOf ps))).leaves).length + _ = _
 simp only [Tri.leaves] at h1
 omega
theorem lfOf_self (b : Lf) : lfOf b.pgs = b := rfl
theorem cutT_none {t : Tri} {k : List UInt8} (h : ¬ has k (t.at' (sumF k)).cells) : cutT k t = t := by
 unfold cutT updB
 rw [cutP_none (fun p hp ⟨c, h1, h2⟩ => h ⟨c, List.mem_flatMap.2 ⟨p, hp, h1⟩, h2⟩), lfOf_self, ← Tri.sub_dep, Tri.upd_sub]
theorem updB_at (t : Tri) (h : Nat) {ps : List (Nat × List Cel)} (hp : ps ≠ []) : ((updB t h ps).at' h).pgs = ps ∧ (updB t h ps).dep h = t.dep h := by
 have := at_upd_self t h (lfOf ps)
 unfold updB
 rw [this.1, this.2, lfOf_pgs hp]
 exact ⟨rfl, rfl⟩
theorem cutT_at (k : List UInt8) (t : Tri) : ((cutT k t).at' (sumF k)).pgs = cutP k (t.at' (sumF k)).pgs ∧ (cutT k t).dep (sumF k) = t.dep (sumF k) :=
 updB_at t (sumF k) (by simp [cutP, Lf.pgs])
theorem cutT_has (k : List UInt8) (t : Tri) : ¬ has k ((cutT k t).at' (sumF k)).cells := by
 rw [Lf.cells_eq, (cutT_at k t).1, cutP_cells]
 exact has_cut _ _
variable {n D : Nat} {pg : Nat → Pag} {t : Tri} {ml : List UInt8} {X : List Nat}
theorem look_cutT (H : Hs n pg D t ml X) (k k' : List UInt8) : lookT (cutT k t) k' = if k' = k then none else lookT t k' := look_cut H k k'
theorem cutT_len (k : List UInt8) (t : Tri) : (numsF (cutT k t).leaves).length = (numsF t.leaves).length := by
 have := updB_len t (sumF k) (cutP k (t.at' (sumF k)).pgs) (by simp [cutP, Lf.pgs])
 rw [cutP_len] at this
 unfold cutT
 omega
theorem set_len' (t : Tri) (h j : Nat) (p : Nat × List Cel) : (numsF (updB t h ((t.at' h).pgs.set j p)).leaves).length = (numsF t.leaves).length := by
 have := updB_len t h ((t.at' h).pgs.set j p) (by simp [Lf.pgs])
 rw [List.length_set] at this
 omega
theorem snoc_len (t : Tri) (h : Nat) (p : Nat × List Cel) : (numsF (updB t h ((t.at' h).pgs ++ [p])).leaves).length = (numsF t.leaves).length + 1 := by
 have := updB_len t h ((t.at' h).pgs ++ [p]) (by simp)
 rw [List.length_append] at this
 simp at this
 omega
theorem numsF_len (H : Hs n pg D t ml X) : (numsF t.leaves).length ≤ 64 := by
 have h1 := nodup_lt n (numsF t.leaves) H.tb.nums (fun m h => (H.tb.rng m h).2)
 have := H.is.le
 omega
theorem Hs.repl (H : Hs n pg D t ml X) (x : Cel) (hx : x.ok) (j m : Nat) (q : Pag) (cs : List Cel) (hj : (t.at' (sumF x.key)).pgs[j]? = some (m, cs)) (hq : ((t.at' (sumF x.key)).pags (t.dep (sumF x.key)))[j]? = some (m, q)) (hh : has x.key cs) (hr : szs (Ha.ins x cs) ≤ 239) :
 Hs n (updN pg m (pagC q (Ha.ins x cs))) D (updB t (sumF x.key) ((t.at' (sumF x.key)).pgs.set j (m, Ha.ins x cs))) ml X ∧ ∀ k, lookT (updB t (sumF x.key) ((t.at' (sumF x.key)).pgs.set j (m, Ha.ins x cs))) k = if k = x.key then some x else lookT t k := by
 have hs := (H.tb.fits _ (t.at_mem (sumF x.key)) _ (List.mem_of_getElem? hj)).sorted
 obtain ⟨H1, e1⟩ := H.cut x.key j m q cs hj hq hh
 have hlook := look_cutT H x.key
 have hcp := cutP_set hj (by rw [← Lf.cells_eq]; exact H.tb.keys _ (t.at_mem _)) hh
 have hat := cutT_at x.key t
 have hno := cutT_has x.key t
 have hlt := (List.getElem?_eq_some_iff.1 hj).1
 have hlq := (List.getElem?_eq_some_iff.1 hq).1
 have hself := at_upd_self t (sumF x.key) (lfOf (cutP x.key (t.at' (sumF x.key)).pgs))
 change Hs n _ D (cutT x.key t) ml X at H1
 have hat2 : (cutT x.key t).at' (sumF x.key) = lfOf (cutP x.key (t.at' (sumF x.key)).pgs) := hself.1
 have hj1 : ((cutT x.key t).at' (sumF x.key)).pgs[j]? = some (m, cutK x.key cs) := by
  rw [hat.1, ← hcp, List.getElem?_set_self hlt]
 have hq1 : (((cutT x.key t).at' (sumF x.key)).pags ((cutT x.key t).dep (sumF x.key)))[j]? = some (m, pagC q (cutK x.key cs)) := by
  rw [hat.2, hat2, e1, List.getElem?_set_self hlq]
 obtain ⟨H2, _, h2⟩ := H1.ins x hx j m (pagC q (cutK x.key cs)) (cutK x.key cs) hj1 hq1 hno (by rw [ins_cut hs]; exact hr)
 have he : (cutT x.key t).upd (sumF x.key) ((cutT x.key t).dep (sumF x.key)) (.leaf (lfOf (((cutT x.key t).at' (sumF x.key)).pgs.set j (m, Ha.ins x (cutK x.key cs))))) = updB t (sumF x.key) ((t.at' (sumF x.key)).pgs.set j (m, Ha.ins x cs)) := by
  rw [hat.2, hat.1, ← hcp, List.set_set, ins_cut hs]
  unfold cutT updB
  exact upd_upd _ _ _ _ _ (Nat.le_refl _)
 rw [he] at H2 h2
 rw [updN_twice, ins_cut hs] at H2
 refine ⟨H2, fun k => ?_⟩
 rw [h2 k, hlook k]
 by_cases e : k = x.key
 · rw [if_pos e, if_pos e]
 · rw [if_neg e, if_neg e, if_neg e]
theorem set_st {w0 w' : World} {gb mb sb qb c : Nat} {tk0 : Int} {t' : Tri} {pg' : Nat → Pag} (hl : (numsF t'.leaves).length = (numsF t.leaves).length) (h : Hs n pg' D t' ml X) (g : GV w0 w' gb mb sb qb c n pg' (tk0 + ((numsF t.leaves).length : Int))) : St w0 w' gb mb sb qb c n pg' D t' ml X tk0 := ⟨by rw [hl]; exact g, h⟩
theorem SplitTri.dep {h : Nat} {t t' : Tri} (hs : SplitTri h t t') : t'.dep h = t.dep h + 1 := by
 obtain ⟨m, _, rfl⟩ := hs
 rw [Tri.dep_upd _ _ t h h (Nat.le_refl _), if_pos rfl, Tri.dep_node]
 split <;> rfl
end Go.Proofs.YtijhamllnnilbaaGreatDoor.Ha
