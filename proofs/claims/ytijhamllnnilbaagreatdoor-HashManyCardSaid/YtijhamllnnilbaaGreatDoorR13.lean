/- Lemmas of the claim, in their order:
- The contract of slices.Delete at cells, of one cell.
- The contracts of package bucket's with, Find, Set, Cut, Room.
- The contracts of package bucket's Find, Set.
-/
import Derived.Test.YtijhamllnnilbaaGreatDoorR12
set_option linter.unusedVariables false
set_option linter.unusedSimpArgs false
namespace Go.Proofs.YtijhamllnnilbaaGreatDoor.Ha
open Go.RowKit Go.Proofs.YtijhamllnnilbaaGreatDoor.Mem Go.Proofs.YtijhamllnnilbaaGreatDoor.Pg Go.Proofs.YtijhamllnnilbaaGreatDoor.Kp Go.Proofs.YtijhamllnnilbaaGreatDoor.Sp Go.Proofs.YtijhamllnnilbaaGreatDoor.Gr
set_option linter.unusedSimpArgs false
set_option linter.unusedVariables false
theorem run_append_row {P : Program} (w : World) (t ty e : TypeId) (i : TypeInfo) (ht : P.underlying t = some (.slice e)) (hi : P.info? e = some i)
 (g sLen sCap : Nat) (a : Addr) (m c : Nat) (T : TypeId) (cur news : List Value) (hg : w.heap[g]? = some (.cells cur.toArray T (0, 0))) (hl : news.length = m * i.size) (hnews : ∀ j u, news[j]? = some u → w.cell? (a.add j) = some u) (h1 : ∀ u ∈ news, u.oneCell' = true)
 (hroom : sLen + m ≤ sCap) (hfit : sLen * i.size + news.length ≤ cur.length) :
 (Builtin.append_ #[t, t] ty #[.slice (some ⟨g, 0, none⟩) sLen sCap, .slice (some a) m c]).run P w = .ok (.slice (some ⟨g, 0, none⟩) (sLen + m) sCap) (w.setRow g (splice cur (sLen * i.size) news).toArray) := by
 have hfc := run_firstCells_some (P := P) w i.size m a m c news hl hnews
 have hst := run_storeCells_at P g (sLen * i.size) T news 0 cur.toArray w hg (by simpa using hfit) h1
 simp only [Nat.add_zero] at hst
 simp [Builtin.append_, run_underlying ht, sizeOf, typeInfo, hi, Builtin.lenOf, hroom, hfc, Addr.add_lit, hst, splice]
theorem run_clear_row {P : Program} (w : World) (t e ty : TypeId) (z : Value) (ht : P.underlying t = some (.slice e)) (hv : ∀ w, (zeroValue e).run P w = .ok z w) (T : TypeId) (cur : List Value) (g o : Nat) (c : Nat)
 (hg : w.heap[g]? = some (.cells cur.toArray T (0, 0))) (hfit : o + z.cells.size ≤ cur.length) (h1 : ∀ u ∈ z.cells.toList, u.oneCell' = true) (hz : 0 < z.cells.size) :
 (Builtin.clear_ #[t] ty #[.slice (some ⟨g, o, none⟩) 1 c]).run P w = .ok (.tuple #[]) (w.setRow g (splice cur o z.cells.toList).toArray) := by
 have hzc : (Builtin.zeroCells z.cells 1) = z.cells := by
  simp [Builtin.zeroCells]
  apply Array.ext
  · simp
  · intro i h1 h2
    simp [Nat.mod_eq_of_lt h2, getElem!_pos, h2]
 have hst := run_storeCells_at P g o T z.cells.toList 0 cur.toArray w hg (by simpa using hfit) h1
 simp only [Nat.add_zero] at hst
 simp [Builtin.clear_, run_underlying ht, hv, hzc, hst, splice]
theorem step_append_run {P : Program} {ops : Array Oper} {o : Oper} {a : Act} {w : World} {K : Act → World → Prop} {Q : Exit → Act → World → Prop} {E : Prop}
 (hg : o.guard = none) (d x : Operand) (dT sT : TypeId) (hop : o.op = Op.call { callee := Callee.builtin Builtin.append, args := #[d, x], argTypes := #[dT, sT] })
 (v u : Value) (hd : a.eval d = v) (hx : a.eval x = u) {v' : Value} {w' : World} (hr : (Builtin.append_ #[dT, sT] o.type #[v, u]).run P w = .ok v' w') (hK : K (a.put o.dst v') w') :
 if Region.wanted o (yielded ops a.tmps) = true then Oper.wp P o a w K Q else E := by
 have hw : Region.wanted o (yielded ops a.tmps) = true := by simp [Region.wanted, hg]
 rw [if_pos hw]
 exact Lib.wp_append_run w d x dT sT hop v u hd hx v' w' hr hK
theorem wpList_clear_run {P : Program} {w : World} {ops : Array Oper} {rest : List Oper} {o : Oper} {a : Act} {Q : Exit → Act → World → Prop} (hgd : o.guard = none) (s : Operand) (t : TypeId)
 (ho : o.op = .call { callee := .builtin .clear, args := #[s], argTypes := #[t] }) (v : Value) (hs : a.eval s = v) {v' : Value} {w' : World}
 (hr : (Builtin.clear_ #[t] o.type #[v]).run P w = .ok v' w') (h : wpList P ops Q rest (a.put o.dst v') w') : wpList P ops Q (o :: rest) a w :=
 wpList_plain hgd fun K hK => by
  unfold Oper.wp execOp
  simp only [ho, resolve, invoke, builtin, Sem.run_bind, Sem.run_pure, Result.andThen_ok, List.map_toArray, List.map_cons, List.map_nil, hs, hr]
  exact hK _ _ h
set_option maxRecDepth 100000 in
set_option maxHeartbeats 8000000 in
theorem delete_ok (w : World) (g cap i n : Nat) (cur P C D R : List Value) (hg : w.heap[g]? = some (.cells cur.toArray 33 (0, 0)))
 (hcur : cur = P ++ (C ++ (D ++ R))) (hP : P.length = i * 4) (hC : C.length = 4) (hD : D.length = (n - (i + 1)) * 4) (hin : i < n) (hn : n ≤ 200) (hcap : n ≤ cap) (hmax : cap ≤ maxLen) (hsz : cur.length = cap * 4)
 (h1D : ∀ v ∈ D, v.oneCell' = true) :
 Calls Tryz.prog 196 #[.slice (some ⟨g, 0, none⟩) n cap, .int .i64 i, .int .i64 ((i : Int) + 1)] w fun e w' =>
  e = .returned (.slice (some ⟨g, 0, none⟩) (n - 1) cap) ∧ (∃ X, w'.heap[g]? = some (.cells (P ++ (D ++ X)).toArray 33 (0, 0)) ∧ (P ++ (D ++ X)).length = cap * 4) ∧ Keep (fun j => j = g) w w' ∧ w'.heap.size = w.heap.size := by
 obtain ⟨i0, hi, hz0, hz1, hz2⟩ := info_parts info_cell
 have hcl : cur.length = P.length + (C.length + (D.length + R.length)) := by rw [hcur]; simp
 have e4 : (Value.agg #[.string ⟨#[]⟩, .string ⟨#[]⟩, .int .i64 0, .int .i64 0]).cells.size = 4 := by kernel_rfl
 have hap : ∀ ty A sc, (A = if cap = i + 1 then (⟨g, 0, none⟩ : Addr) else ⟨g, (i + 1) * 4, none⟩) → (Builtin.append_ #[142, 142] ty #[.slice (some ⟨g, 0, none⟩) i cap, .slice (some A) (n - (i + 1)) sc]).run Tryz.prog w.drew = .ok (.slice (some ⟨g, 0, none⟩) (i + (n - (i + 1))) cap) (w.drew.setRow g (splice cur P.length D).toArray) := fun ty A sc hA => by
  have h := run_append_row w.drew 142 ty 33 i0 Tryz.underlying142 hi g i cap A (n - (i + 1)) sc _ cur D hg (by rw [hz1]; exact hD) (fun j u hj => ?_) h1D (by omega) (by rw [hz1, ← hP]; omega)
  · rw [hz1, ← hP] at h
    exact h
  · have hjl := (List.getElem?_eq_some_iff.1 hj).1
    rw [hA, if_neg (by omega), Addr.add_lit]
    refine (blk_cell (w := w.drew) hg ((i + 1) * 4 + j)).trans ?_
    simp only [List.getElem?_toArray]
    rw [hcur, List.getElem?_append_right (by omega), List.getElem?_append_right (by omega), List.getElem?_append_left (by omega), ← hj]
    congr 1; omega
 obtain ⟨W1, hW1⟩ : ∃ W1, W1 = w.drew.setRow g (splice cur P.length D).toArray := ⟨_, rfl⟩
 have hg1 : W1.heap[g]? = some (.cells (splice cur P.length D).toArray 33 (0, 0)) := hW1 ▸ setRow_heap w.drew g _ _ _ _ hg
 have hl1 : (splice cur P.length D).length = cur.length := length_splice _ _ _ (by omega)
 have hclr : ∀ ty sc, (Builtin.clear_ #[142] ty #[.slice (some ⟨g, (n - 1) * 4, none⟩) 1 sc]).run Tryz.prog W1 = .ok (.tuple #[]) (W1.setRow g (splice (splice cur P.length D) ((n - 1) * 4) (Value.agg #[.string ⟨#[]⟩, .string ⟨#[]⟩, .int .i64 0, .int .i64 0]).cells.toList).toArray) := fun ty sc =>
  run_clear_row W1 142 33 ty _ Tryz.underlying142 Tryz.zeroValue33 _ _ g _ sc hg1 (by rw [e4, hl1]; omega) (by intro u hu; simp [Value.cells] at hu; rcases hu with rfl | rfl | rfl | rfl <;> rfl) (by rw [e4]; omega)
 have hend : ∃ X, splice (splice cur P.length D) ((n - 1) * 4) (Value.agg #[.string ⟨#[]⟩, .string ⟨#[]⟩, .int .i64 0, .int .i64 0]).cells.toList = P ++ (D ++ X) := by
  have e1 : splice cur P.length D = P ++ (D ++ cur.drop (P.length + D.length)) := by
   unfold splice
   congr 1
   rw [hcur, List.take_left]
  have e2 : (splice cur P.length D).take ((n - 1) * 4) = P ++ D := by
   rw [e1, ← List.append_assoc, List.take_left' (by simp; omega)]
  unfold splice at e2 ⊢
  rw [e2]
  exact ⟨_, List.append_assoc ..⟩
 obtain ⟨X, hX⟩ := hend
 have hl4 : (Value.agg #[.string ⟨#[]⟩, .string ⟨#[]⟩, .int .i64 0, .int .i64 0]).cells.toList.length = 4 := by kernel_rfl
 have hlen : (P ++ (D ++ X)).length = cap * 4 := by
  rw [← hX, length_splice _ _ _ (by rw [hl1, hl4]; omega), hl1, hsz]
 have hfin : (W1.setRow g (splice (splice cur P.length D) ((n - 1) * 4) (Value.agg #[.string ⟨#[]⟩, .string ⟨#[]⟩, .int .i64 0, .int .i64 0]).cells.toList).toArray).heap[g]? = some (.cells (P ++ (D ++ X)).toArray 33 (0, 0)) := by
  rw [← hX]; exact setRow_heap _ _ _ _ _ _ hg1
 have hkeep : Keep (fun j => j = g) w (W1.setRow g (splice (splice cur P.length D) ((n - 1) * 4) (Value.agg #[.string ⟨#[]⟩, .string ⟨#[]⟩, .int .i64 0, .int .i64 0]).cells.toList).toArray) := keep_setRow (S := fun j => j = g) (hW1 ▸ keep_setRow (S := fun j => j = g) (Keep.refl _ w).drew (.inl rfl) _) (.inl rfl) _
 have hsize : (W1.setRow g (splice (splice cur P.length D) ((n - 1) * 4) (Value.agg #[.string ⟨#[]⟩, .string ⟨#[]⟩, .int .i64 0, .int .i64 0]).cells.toList).toArray).heap.size = w.heap.size := by rw [hW1]; simp
 generalize splice (splice cur P.length D) ((n - 1) * 4) (Value.agg #[.string ⟨#[]⟩, .string ⟨#[]⟩, .int .i64 0, .int .i64 0]).cells.toList = r2 at *
 rw [← hW1] at hap
 have hin' : i + (n - (i + 1)) = n - 1 := by omega
 rw [hin'] at hap
 obtain ⟨A, hA1, hA2⟩ : ∃ A : Addr, (if cap = i + 1 then (some ⟨g, 0, none⟩ : Option Addr) else some ⟨g, (i + 1) * 4, none⟩) = some A ∧ A = if cap = i + 1 then (⟨g, 0, none⟩ : Addr) else ⟨g, (i + 1) * 4, none⟩ := ⟨_, by split <;> rfl, rfl⟩
 have hap' := fun ty sc => hap ty A sc hA2
 clear hap hA2
 have HF := Lib.hid hfin
 have HK := Lib.hid hkeep
 have HS := Lib.hid hsize
 have HL := Lib.hid hlen
 have hcap' : cap ≤ 9223372036854775807 := by unfold maxLen at hmax; omega
 have b2 : ¬ (cap = i) := by omega
 have b3 : (i : Int) + 1 ≤ (n : Int) := by omega
 have b4 : ¬ ((i : Int) = (i : Int) + 1) := by omega
 have b5 : (n : Int) ≤ (cap : Int) := by omega
 have b6 : (i : Int) ≤ (i : Int) + 1 := by omega
 have b7 : ((i : Int) + 1).toNat = i + 1 := by omega
 have b8 : (0 : Int) ≤ (i : Int) + 1 := by omega
 have b9 : (i : Int) ≤ (cap : Int) := by omega
 have b10 : ((n - 1 : Nat) : Int) ≤ (n : Int) := by omega
 have b11 : ¬ (cap = n - 1) := by omega
 have b12 : n - (n - 1) = 1 := by omega
 clear hfin hkeep hsize hlen hX hg1 hl1 hW1 hcur hP hD hC hsz h1D hg hcl e4 hl4 hin'
 go_enter Tryz.func196, Tryz.ntmps196
 go_wp2_with fail
 refine wp_region_held_drew (S := (fun _ => True)) (by kernel_rfl) (trivial) (fun hHeld => ?_)
 refine Ra.W 0 ?_ ?_ hHeld ?_
 rotate_left
 · intro wq hSw
   go_simp
   try with_reducible rfl
 try simp only [Act.put, List.getElem_toArray, List.getElem_cons_succ, List.getElem_cons_zero, List.setIfInBounds_toArray, List.set_cons_zero, List.set_cons_succ]
 refine Ra.W 1 ?_ ?_ hHeld ?_
 rotate_left
 · intro wq hSw
   go_simp
   try with_reducible rfl
 try simp only [Act.put, List.getElem_toArray, List.getElem_cons_succ, List.getElem_cons_zero, List.setIfInBounds_toArray, List.set_cons_zero, List.set_cons_succ]
 refine Ra.W 2 ?_ ?_ hHeld ?_
 rotate_left
 · intro wq hSw
   try dsimp only at hSw
   go_simp
   try rw [if_neg (by omega)]
   try rw [if_pos (by omega)]
   try with_reducible rfl
 try simp only [Act.put, List.getElem_toArray, List.getElem_cons_succ, List.getElem_cons_zero, List.setIfInBounds_toArray, List.set_cons_zero, List.set_cons_succ]
 refine Ra.W 3 ?_ ?_ hHeld ?_
 rotate_left
 · intro wq hSw
   go_simp
   try with_reducible rfl
 try simp only [Act.put, List.getElem_toArray, List.getElem_cons_succ, List.getElem_cons_zero, List.setIfInBounds_toArray, List.set_cons_zero, List.set_cons_succ]
 refine Ra.W 4 ?_ ?_ hHeld ?_
 rotate_left
 · intro wq hSw
   go_simp
   try with_reducible rfl
 try simp only [Act.put, List.getElem_toArray, List.getElem_cons_succ, List.getElem_cons_zero, List.setIfInBounds_toArray, List.set_cons_zero, List.set_cons_succ]
 refine Ra.W 5 ?_ ?_ hHeld ?_
 rotate_left
 · intro wq hSw
   try dsimp only at hSw
   go_simp
   try rw [if_neg (by omega)]
   try rw [if_pos (by omega)]
   try with_reducible rfl
 try simp only [Act.put, List.getElem_toArray, List.getElem_cons_succ, List.getElem_cons_zero, List.setIfInBounds_toArray, List.set_cons_zero, List.set_cons_succ]
 refine wpAnyH_ready (rs := [6]) (by kernel_rfl) (by simp) ?_
 refine AllReadyH.cons rfl (fun K hK => ?_) AllReadyH.nil
 refine step_append_run rfl _ _ 142 142 rfl (.slice (some ⟨g, 0, none⟩) i cap) (.slice (some A) (n - (i + 1)) (cap - (i + 1))) (by simp [Act.eval, Act.put]) (by simp [Act.eval, Act.put]) (hap' _ _) ?_
 refine hK.out _ _ (trivial) (fun hHeld2 => ?_)
 clear hK K
 try clear hHeld
 have hHeld := hHeld2
 try clear hHeld2
 refine Ra.W 7 ?_ ?_ hHeld ?_
 rotate_left
 · intro wq hSw
   go_simp
   try with_reducible rfl
 try simp only [Act.put, List.getElem_toArray, List.getElem_cons_succ, List.getElem_cons_zero, List.setIfInBounds_toArray, List.set_cons_zero, List.set_cons_succ]
 refine wpAnyH_done (by kernel_rfl) ?_ _
 go_wp2_with (at_builtin; refine wpList_clear_run rfl _ 142 rfl _ rfl (hclr _ _) ?_)
 go_ret
 exact ⟨rfl, ⟨X, HF.out, HL.out⟩, HK.out, HS.out⟩
end Go.Proofs.YtijhamllnnilbaaGreatDoor.Ha
namespace Go.Proofs.YtijhamllnnilbaaGreatDoor.Ha
open Go.RowKit Go.Proofs.YtijhamllnnilbaaGreatDoor.Mem Go.Proofs.YtijhamllnnilbaaGreatDoor.Pg Go.Proofs.YtijhamllnnilbaaGreatDoor.Kp Go.Proofs.YtijhamllnnilbaaGreatDoor.Sp Go.Proofs.YtijhamllnnilbaaGreatDoor.Gr
set_option linter.unusedSimpArgs false
set_option linter.unusedVariables false
theorem flatC_take (l : List Cel) (i : Nat) (h : i ≤ l.length) : (flatC (l.take i)).length = i * 4 := by rw [flatC_len, List.length_take]; omega
theorem flatC_drop (l : List Cel) (i : Nat) : (flatC (l.drop i)).length = (l.length - i) * 4 := by rw [flatC_len, List.length_drop]
theorem flatC_cons (c : Cel) (l : List Cel) : flatC (c :: l) = c.cells ++ flatC l := by simp [flatC]
theorem insert_own (w : World) (base : Nat) (A : Option Addr) (cap n i : Nat) (l : List Cel) (c : Cel) (vb : Nat) (hn : n = l.length) (ho : w.ownsRow base 33 4 (.slice A n cap) n (flatC l)) (hl : l.length ≤ 200) (hb : base ≤ w.heap.size) (hi : i ≤ l.length)
 (hv : w.heap[vb]? = some (.cells c.cells.toArray 33 (0, 0))) (hne : ∀ a, A = some a → vb ≠ a.block) :
 Calls Tryz.prog 139 #[.slice A n cap, .int .i64 i, .slice (some ⟨vb, 0, none⟩) 1 1] w fun e w' =>
  ∃ A' cap', e = .returned (.slice A' (l.length + 1) cap') ∧ w'.ownsRow base 33 4 (.slice A' (l.length + 1) cap') (l.length + 1) (flatC (l.take i ++ c :: l.drop i)) ∧ Below base w w' := by
 subst hn
 by_cases hin : i < l.length
 · rcases ho.2 with ⟨h1, h2⟩ | ⟨g, cap', cur, h0, hbg, hg, h1, h2, h3, h4⟩
   · omega
   · injection h0 with e1 e2 e3
     subst e1 e3
     have hcur : cur.toList = flatC (l.take i) ++ (flatC (l.drop i) ++ cur.toList.drop (l.length * 4)) := by
      rw [← List.append_assoc, ← flatC_append, List.take_append_drop, ← h4, List.take_append_drop]
     have hP := flatC_take l i hi
     have hD := flatC_drop l i
     have hone := cel_one (l.drop i)
     have hg' : w.heap[g]? = some (.cells cur.toList.toArray 33 (0, 0)) := by simpa using hg
     have hfl : flatC (l.take i ++ c :: l.drop i) = flatC (l.take i) ++ (c.cells ++ flatC (l.drop i)) := by rw [flatC_append, flatC_cons]
     have hlen : (flatC (l.take i) ++ (c.cells ++ flatC (l.drop i))).length = (l.length + 1) * 4 := by
      rw [List.length_append, List.length_append, hP, hD, show c.cells.length = 4 from rfl]; omega
     have hfin : ∀ X : List Value, (flatC (l.take i) ++ (c.cells ++ (flatC (l.drop i) ++ X))).take ((l.length + 1) * 4) = flatC (l.take i ++ c :: l.drop i) := fun X => by
      rw [hfl, ← hlen, show flatC (l.take i) ++ (c.cells ++ (flatC (l.drop i) ++ X)) = (flatC (l.take i) ++ (c.cells ++ flatC (l.drop i))) ++ X by simp]
      exact List.take_left
     by_cases hroom : l.length + 1 ≤ cap
     · refine (insert_room w base g cap i l.length cur.toList (flatC (l.take i)) (flatC (l.drop i)) _ c vb hg' hbg hcur hP hD hin hl hroom h2 (by simpa using h3) hone hv (hne _ rfl)).mono ?_
       rintro e w' ⟨rfl, ⟨X, hX, hXl⟩, hk, _⟩
       refine ⟨_, _, rfl, ⟨by rw [hfl]; exact hlen, .inr ⟨g, cap, _, rfl, hbg, hX, hroom, h2, by simpa using hXl, ?_⟩⟩, hk.to_below hb (fun j hj => by rw [hj]; exact hbg)⟩
       exact hfin X
     · refine (insert_grow w g cap i l.length cur.toList (flatC (l.take i)) (flatC (l.drop i)) _ c vb hg' hcur hP hD hin hl h1 (by omega) h2 hone hv).mono ?_
       rintro e w' ⟨cap', X, rfl, hc1, hc2, hX, hXl, hk⟩
       refine ⟨_, _, rfl, ⟨by rw [hfl]; exact hlen, .inr ⟨w.heap.size, cap', _, rfl, hb, hX, hc1, hc2, by simpa using hXl, ?_⟩⟩, hk.mono hb⟩
       exact hfin X
 · obtain rfl : i = l.length := by omega
   rw [List.take_length, List.drop_length]
   refine (insert_end w base _ l c vb ho hl hb hv).mono ?_
   rintro e w' ⟨v', rfl, ho', hb'⟩
   obtain ⟨A', cap', rfl⟩ := own_slice ho'
   exact ⟨A', cap', rfl, ho', hb'⟩
theorem delete_own (w : World) (base : Nat) (A : Option Addr) (cap n i : Nat) (l : List Cel) (hn : n = l.length) (ho : w.ownsRow base 33 4 (.slice A n cap) n (flatC l)) (hl : l.length ≤ 200) (hb : base ≤ w.heap.size) (hi : i < l.length) :
 Calls Tryz.prog 196 #[.slice A n cap, .int .i64 i, .int .i64 ((i : Int) + 1)] w fun e w' =>
  ∃ A' cap', e = .returned (.slice A' (l.length - 1) cap') ∧ w'.ownsRow base 33 4 (.slice A' (l.length - 1) cap') (l.length - 1) (flatC (l.eraseIdx i)) ∧ Below base w w' := by
 subst hn
 rcases ho.2 with ⟨h1, h2⟩ | ⟨g, cap', cur, h0, hbg, hg, h1, h2, h3, h4⟩
 · omega
 · injection h0 with e1 e2 e3
   subst e1 e3
   have hd : flatC (l.drop i) = (l[i]).cells ++ flatC (l.drop (i + 1)) := by rw [List.drop_eq_getElem_cons hi, flatC_cons]
   have hcur : cur.toList = flatC (l.take i) ++ ((l[i]).cells ++ (flatC (l.drop (i + 1)) ++ cur.toList.drop (l.length * 4))) := by
    rw [← List.append_assoc (l[i]).cells, ← hd, ← List.append_assoc, ← flatC_append, List.take_append_drop, ← h4, List.take_append_drop]
   have hP := flatC_take l i (by omega)
   have hD := flatC_drop l (i + 1)
   have hg' : w.heap[g]? = some (.cells cur.toList.toArray 33 (0, 0)) := by simpa using hg
   have hfl : flatC (l.eraseIdx i) = flatC (l.take i) ++ flatC (l.drop (i + 1)) := by rw [List.eraseIdx_eq_take_drop_succ, flatC_append]
   have hlen : (flatC (l.take i) ++ flatC (l.drop (i + 1))).length = (l.length - 1) * 4 := by rw [List.length_append, hP, hD]; omega
   refine (delete_ok w g cap i l.length cur.toList (flatC (l.take i)) (l[i]).cells (flatC (l.drop (i + 1))) _ hg' hcur hP rfl hD hi hl h1 h2 (by simpa using h3) (cel_one _)).mono ?_
   rintro e w' ⟨rfl, ⟨X, hX, hXl⟩, hk, _⟩
   refine ⟨_, _, rfl, ⟨by rw [hfl]; exact hlen, .inr ⟨g, cap, _, rfl, hbg, hX, by omega, h2, by simpa using hXl, ?_⟩⟩, hk.to_below hb (fun j hj => by rw [hj]; exact hbg)⟩
   show List.take _ (flatC (l.take i) ++ (flatC (l.drop (i + 1)) ++ X)) = _
   rw [hfl, ← hlen, ← List.append_assoc]
   exact List.take_left
theorem blk_a1 (w : World) (cs : Array Value) (t : TypeId) (o : Obj) : ((w.alloc (.cells cs t)).alloc o).heap[w.heap.size]? = some (.cells cs t (0, 0)) := hal (heap_alloc_new w _)
theorem blk_a2 (w : World) (o : Obj) (cs : Array Value) (t : TypeId) : ((w.alloc o).alloc (.cells cs t)).heap[w.heap.size + 1]? = some (.cells cs t (0, 0)) := by
 have := heap_alloc_new (w.alloc o) (.cells cs t)
 simpa using this
theorem blk_a3 (w : World) (o o' : Obj) (cs : Array Value) (t : TypeId) : (((w.alloc o).alloc o').alloc (.cells cs t)).heap[w.heap.size + 2]? = some (.cells cs t (0, 0)) := by
 have := heap_alloc_new ((w.alloc o).alloc o') (.cells cs t)
 simpa using this
abbrev pagO (k d x : Int) (S : ByteArray) : Obj := .cells #[.int .i64 k, .int .i64 d, .int .i64 x, .string S] 113
abbrev zpO : Obj := pagO 0 0 0 ⟨#[]⟩
abbrev zpV : Value := .agg #[.int .i64 0, .int .i64 0, .int .i64 0, .string ⟨#[]⟩]
abbrev zcO : Obj := .cells #[.string ⟨#[]⟩, .string ⟨#[]⟩, .int .i64 0, .int .i64 0] 33
abbrev zcV : Value := .agg #[.string ⟨#[]⟩, .string ⟨#[]⟩, .int .i64 0, .int .i64 0]
def withRes (p : Pag) (l : List Cel) : Ending := if szs l ≤ 239 then .returned (.tuple #[(⟨p.k, p.d, p.x, bodyF l⟩ : Pag).v, .int .i64 0]) else .returned (.tuple #[zpV, .int .i64 13])
set_option maxRecDepth 100000 in
theorem with_any (p : Pag) (A : Option Addr) (n cap : Nat) (l : List Cel) (w : World) (hn : n = l.length) (hl : l.length ≤ 200) (hA : Cels w A l) (hok : ∀ c, c ∈ l → c.ok) (hs : Sorted l) :
 Calls Tryz.prog 140 #[p.v, .slice A n cap] w fun e w' => e = withRes p l ∧ Below w.heap.size w w' := by
 have hput := fun W (hW : Cels W A l) => putAll_any A n cap l W hn hl hW hok hs
 unfold withRes
 obtain ⟨k, d, x, body⟩ := p
 simp only [Pag.v]
 obtain ⟨S, hS⟩ : ∃ S, S = str body := ⟨_, rfl⟩
 rw [← hS]
 have b1 := below_al (below_al (Below.refl _ w) (pagO k d x S)) zpO
 have hp := hput _ (hA.below b1)
 have Q := Lib.hid (blk_a1 w #[.int .i64 k, .int .i64 d, .int .i64 x, .string S] 113 zpO)
 have Z := Lib.hid (blk_a2 w (pagO k d x S) #[.int .i64 0, .int .i64 0, .int .i64 0, .string ⟨#[]⟩] 113)
 have B := Lib.hid b1
 clear b1 hput hA hok hs hS hl hn
 by_cases hsz : szs l ≤ 239
 · unfold putRes at hp
   rw [if_pos hsz] at hp
   rw [if_pos hsz]
   obtain ⟨T, hT⟩ : ∃ T, T = str (bodyF l) := ⟨_, rfl⟩
   rw [← hT] at hp ⊢
   clear hT hsz
   go_enter Tryz.func140, Tryz.ntmps140
   go_wp2_with fail
   with_reducible refine hp.mono ?_
   rintro e w1 ⟨rfl, hb1⟩
   have q1 := blk_keep Q.out hb1
   have z1 := blk_keep Z.out hb1
   have B1 := Lib.hid (below_tr B.out hb1)
   have cq := blk_cell q1
   have fq := blk_free q1
   have lq := lt_of_block q1
   have q2 := heap_setCell_same w1 w.heap.size 3 _ _ (.string T) q1
   have cq2 := blk_cell q2
   have z2 := (heap_setCell_other w1 ⟨w.heap.size, 3, none⟩ _ (.string T) (show w.heap.size + 1 ≠ w.heap.size by omega)).trans z1
   have cz := blk_cell z2
   have fz := blk_free z2
   have lz := lt_of_block z2
   have zf := blk_cell (set4_same z2 (.int .i64 k) (.int .i64 d) (.int .i64 x) (.string T))
   have BF := Lib.hid (below_set4 (below_set (j := 3) (u := .string T) B1.out (Nat.le_refl w.heap.size)) (show w.heap.size ≤ w.heap.size + 1 by omega) (.int .i64 k) (.int .i64 d) (.int .i64 x) (.string T))
   clear q1 z1 q2 z2 hb1 hp
   go_wp2_with fail
   refine bodyPost_ret (v := .tuple #[.agg #[.int .i64 k, .int .i64 d, .int .i64 x, .string T], .int .i64 0]) (by simp [results, Tryz.results140, go_sem, zf]) rfl ⟨rfl, BF.out⟩
 · unfold putRes at hp
   rw [if_neg hsz] at hp
   rw [if_neg hsz]
   clear hsz
   go_enter Tryz.func140, Tryz.ntmps140
   go_wp2_with fail
   with_reducible refine hp.mono ?_
   rintro e w1 ⟨rfl, hb1⟩
   have z1 := blk_keep Z.out hb1
   have B1 := Lib.hid (below_tr B.out hb1)
   have cz := blk_cell z1
   have fz := blk_free z1
   have lz := lt_of_block z1
   have zf := blk_cell (set4_same z1 (.int .i64 0) (.int .i64 0) (.int .i64 0) (.string ⟨#[]⟩))
   have BF := Lib.hid (below_set4 B1.out (show w.heap.size ≤ w.heap.size + 1 by omega) (.int .i64 0) (.int .i64 0) (.int .i64 0) (.string ⟨#[]⟩))
   clear z1 hb1 hp
   go_wp2_with fail
   refine bodyPost_ret (v := .tuple #[zpV, .int .i64 13]) (by simp [results, Tryz.results140, go_sem, zf]) rfl ⟨rfl, BF.out⟩
end Go.Proofs.YtijhamllnnilbaaGreatDoor.Ha
namespace Go.Proofs.YtijhamllnnilbaaGreatDoor.Ha
open Go.RowKit Go.Proofs.YtijhamllnnilbaaGreatDoor.Mem Go.Proofs.YtijhamllnnilbaaGreatDoor.Pg Go.Proofs.YtijhamllnnilbaaGreatDoor.Kp Go.Proofs.YtijhamllnnilbaaGreatDoor.Sp Go.Proofs.YtijhamllnnilbaaGreatDoor.Gr
set_option linter.unusedSimpArgs false
set_option linter.unusedVariables false
def celAt (k : List UInt8) (l : List Cel) : Cel := l.getD (pos k l) ⟨[], [], 0, 0⟩
theorem celAt_get {k : List UInt8} {l : List Cel} (hs : Sorted l) (h : has k l) : ∃ hl : pos k l < l.length, celAt k l = l[pos k l] ∧ (celAt k l).key = k := by
 obtain ⟨hl, e⟩ := (has_iff hs).1 h
 refine ⟨hl, ?_, ?_⟩
 · unfold celAt; rw [List.getD_eq_getElem?_getD, List.getElem?_eq_getElem hl]; rfl
 · unfold celAt; rw [List.getD_eq_getElem?_getD, List.getElem?_eq_getElem hl]; exact e
theorem celAt_mem {k : List UInt8} {l : List Cel} (hs : Sorted l) (h : has k l) : celAt k l ∈ l := by
 obtain ⟨hl, e, _⟩ := celAt_get hs h
 rw [e]; exact List.getElem_mem _
set_option maxRecDepth 100000 in
theorem find_yes (p : Pag) (l : List Cel) (k : List UInt8) (hp : Bkt p l) (h : has k l) (w : World) :
 Calls Tryz.prog 136 #[p.v, .string (str k)] w fun e w' => e = .returned (.tuple #[(celAt k l).v, .bool true]) ∧ Below w.heap.size w w' := by
 have hs := hp.fits.sorted
 have hlen := hp.fits.len
 have hget := bcells_ok p l hp
 have hat := fun A cap W (hA : Cels W A l) => at_any A l.length cap l k W rfl hA hs (by omega)
 rw [decide_eq_true h] at hat
 obtain ⟨hpl, hce, _⟩ := celAt_get hs h
 obtain ⟨q, d, x, body⟩ := p
 simp only [Pag.v] at hget ⊢
 obtain ⟨S, hS⟩ : ∃ S, S = str body := ⟨_, rfl⟩
 rw [← hS] at hget ⊢
 obtain ⟨T, hT⟩ : ∃ T, T = str k := ⟨_, rfl⟩
 rw [← hT] at hat ⊢
 have cp := blk_cell (blk_a1 w #[.int .i64 q, .int .i64 d, .int .i64 x, .string S] 113 zcO)
 have B := Lib.hid (below_al (below_al (Below.refl _ w) (pagO q d x S)) zcO)
 have Z := Lib.hid (blk_a2 w (pagO q d x S) #[.string ⟨#[]⟩, .string ⟨#[]⟩, .int .i64 0, .int .i64 0] 33)
 obtain ⟨P, hP⟩ : ∃ P, P = pos k l := ⟨_, rfl⟩
 have HC : Hid (∃ hl : P < l.length, celAt k l = l[P]) := Lib.hid (by subst hP; exact ⟨hpl, hce⟩)
 rw [← hP] at hat
 have Hat := Lib.hid hat
 clear hS hT hp hs h hce hpl hP hat
 obtain ⟨hPl, hce⟩ := HC.out
 obtain ⟨c, hc⟩ : ∃ c, c = celAt k l := ⟨_, rfl⟩
 rw [← hc] at hce ⊢
 obtain ⟨ck, cv, cb, cz⟩ := c
 simp only [Cel.v]
 have Hce := Lib.hid hce
 clear HC hc hce
 go_enter Tryz.func136, Tryz.ntmps136
 go_wp2_with fail
 with_reducible refine (hget _).mono ?_
 rintro e w1 ⟨A, cap, rfl, ho, hb1⟩
 have O1 := Lib.hid ho
 have B1 := Lib.hid (below_tr B.out hb1)
 have Z1 := Lib.hid (blk_keep Z.out hb1)
 have hat1 := Hat.out A cap w1 (Cels.of_own ho)
 clear ho hb1 cp hget Z B Hat
 go_wp2_with fail
 with_reducible refine hat1.mono ?_
 rintro e w2 ⟨rfl, hb2⟩
 obtain ⟨b0, off, rfl, hbl, hcell⟩ := (Cels.of_own O1.out) (by omega)
 have hx := fun r u (hr : (l[P]).cells[r]? = some u) => (hb2.cell (p := ⟨b0, off + P * 4 + r, none⟩) hbl).trans (hcell P _ (List.getElem?_eq_getElem hPl) r u hr)
 rw [← Hce.out] at hx
 have c0 := hx 0 _ rfl
 have c1 := hx 1 _ rfl
 have c2 := hx 2 _ rfl
 have c3 := hx 3 _ rfl
 simp only [Nat.add_zero] at c0
 have hbw : b0 < w2.heap.size := Nat.lt_of_lt_of_le hbl hb2.size
 have B2 := Lib.hid (below_tr B1.out hb2)
 have z2 := blk_keep Z1.out hb2
 have cz2 := blk_cell z2
 have fz2 := blk_free z2
 have lz2 := lt_of_block z2
 have hPi : (P : Int) < (l.length : Int) := by omega
 have zf := blk_cell (set4_same z2 (.string (str ck)) (.string (str cv)) (.int .i64 cb) (.int .i64 cz))
 have BF := Lib.hid (below_set4 B2.out (show w.heap.size ≤ w.heap.size + 1 by omega) (.string (str ck)) (.string (str cv)) (.int .i64 cb) (.int .i64 cz))
 clear hb2 hx hcell hat1 Z1 B1 z2 B2
 go_wp2_with fail
 refine bodyPost_ret (v := .tuple #[.agg #[.string (str ck), .string (str cv), .int .i64 cb, .int .i64 cz], .bool true]) (by simp [results, Tryz.results136, go_sem, zf]) rfl ⟨rfl, BF.out⟩
set_option maxRecDepth 100000 in
theorem find_no (p : Pag) (l : List Cel) (k : List UInt8) (hp : Bkt p l) (h : ¬ has k l) (w : World) :
 Calls Tryz.prog 136 #[p.v, .string (str k)] w fun e w' => e = .returned (.tuple #[zcV, .bool false]) ∧ Below w.heap.size w w' := by
 have hs := hp.fits.sorted
 have hlen := hp.fits.len
 have hget := bcells_ok p l hp
 have hat := fun A cap W (hA : Cels W A l) => at_any A l.length cap l k W rfl hA hs (by omega)
 rw [decide_eq_false h] at hat
 obtain ⟨q, d, x, body⟩ := p
 simp only [Pag.v] at hget ⊢
 obtain ⟨S, hS⟩ : ∃ S, S = str body := ⟨_, rfl⟩
 rw [← hS] at hget ⊢
 obtain ⟨T, hT⟩ : ∃ T, T = str k := ⟨_, rfl⟩
 rw [← hT] at hat ⊢
 have cp := blk_cell (blk_a1 w #[.int .i64 q, .int .i64 d, .int .i64 x, .string S] 113 zcO)
 have B := Lib.hid (below_al (below_al (Below.refl _ w) (pagO q d x S)) zcO)
 have Z := Lib.hid (blk_a2 w (pagO q d x S) #[.string ⟨#[]⟩, .string ⟨#[]⟩, .int .i64 0, .int .i64 0] 33)
 generalize pos k l = P at *
 have Hat := Lib.hid hat
 clear hS hT hp hs h hat
 go_enter Tryz.func136, Tryz.ntmps136
 go_wp2_with fail
 with_reducible refine (hget _).mono ?_
 rintro e w1 ⟨A, cap, rfl, ho, hb1⟩
 have B1 := Lib.hid (below_tr B.out hb1)
 have Z1 := Lib.hid (blk_keep Z.out hb1)
 have hat1 := Hat.out A cap w1 (Cels.of_own ho)
 clear ho hb1 cp hget Z B Hat
 go_wp2_with fail
 with_reducible refine hat1.mono ?_
 rintro e w2 ⟨rfl, hb2⟩
 have B2 := Lib.hid (below_tr B1.out hb2)
 have z2 := blk_keep Z1.out hb2
 have cz2 := blk_cell z2
 have fz2 := blk_free z2
 have lz2 := lt_of_block z2
 have zf := blk_cell (set4_same z2 (.string ⟨#[]⟩) (.string ⟨#[]⟩) (.int .i64 0) (.int .i64 0))
 have BF := Lib.hid (below_set4 B2.out (show w.heap.size ≤ w.heap.size + 1 by omega) (.string ⟨#[]⟩) (.string ⟨#[]⟩) (.int .i64 0) (.int .i64 0))
 clear hb2 hat1 Z1 B1 z2 B2
 go_wp2_with fail
 refine bodyPost_ret (v := .tuple #[zcV, .bool false]) (by simp [results, Tryz.results136, go_sem, zf]) rfl ⟨rfl, BF.out⟩
end Go.Proofs.YtijhamllnnilbaaGreatDoor.Ha
