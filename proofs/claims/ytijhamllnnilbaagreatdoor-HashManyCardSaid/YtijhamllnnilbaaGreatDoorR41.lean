/- Lemmas of the claim, in their order:
- The store of a new table; a group over a store.
- The first call of chapter 19's laws; what a table tells by its keys.
- A table of keys with values, some in pages of their own. No program in sight.
- The contract of hash.Cut of a key that is there, nothing shrinking.
- The table with its values' pages: what Get, Store, Set, Blobs, Give, Check tell.
- HashOverflows: the walk.
-/
import Derived.Test.YtijhamllnnilbaaGreatDoorR38
import Derived.Test.YtijhamllnnilbaaGreatDoorR27
import Derived.Test.YtijhamllnnilbaaGreatDoorR40
import Derived.Test.YtijhamllnnilbaaGreatDoorR28
import Derived.Test.YtijhamllnnilbaaGreatDoorR30
import Derived.Test.YtijhamllnnilbaaGreatDoorR39
set_option linter.unusedVariables false
set_option linter.unusedSimpArgs false
namespace Go.Proofs.YtijhamllnnilbaaGreatDoor.Ha
open Go.RowKit Go.Proofs.YtijhamllnnilbaaGreatDoor.Mem Go.Proofs.YtijhamllnnilbaaGreatDoor.Pg Go.Proofs.YtijhamllnnilbaaGreatDoor.Kp Go.Proofs.YtijhamllnnilbaaGreatDoor.Sp Go.Proofs.YtijhamllnnilbaaGreatDoor.Gr
set_option linter.unusedSimpArgs false
set_option linter.unusedVariables false
def bnew (n k i : Nat) : List UInt8 := if i < k then (pgNew n i).bytes else B0 n i
theorem bnew_zero (n : Nat) : bnew n 0 = B0 n := by funext i; unfold bnew; rw [if_neg (by omega)]
theorem bnew_step (n k : Nat) : (fun i => if i = k then (pgNew n k).bytes else bnew n k i) = bnew n (k + 1) := by
 funext i
 unfold bnew
 by_cases e : i = k
 · subst e; rw [if_pos rfl, if_pos (by omega)]
 · rw [if_neg e]
   by_cases h : i < k
   · rw [if_pos h, if_pos (by omega)]
   · rw [if_neg h, if_neg (by omega)]
theorem pgNew_ok (n k : Nat) (hk : k < 3) : (pgNew n k).ok := by
 rcases (show k = 0 ∨ k = 1 ∨ k = 2 by omega) with rfl | rfl | rfl
 · exact Pag.ok_mk (by omega) (by omega) (by omega) (by kernel_rfl)
 · exact Pag.ok_mk (by omega) (by omega) (by omega) (by show (fmtL n).length = 240; unfold fmtL; rw [List.length_set, newL_len])
 · exact Pag.ok_mk (by omega) (by omega) (by omega) (zs_len 240)
theorem bnew_shows (n i : Nat) : Shows (bnew n 3 i) (pgNew n i) := by
 unfold bnew
 by_cases h : i < 3
 · rw [if_pos h]; exact .inl ⟨pgNew_ok n i h, rfl⟩
 · rw [if_neg h]
   refine .inr ⟨by unfold B0; rw [if_neg (by omega)], ?_⟩
   unfold pgNew
   rw [if_neg (by omega), if_neg (by omega), if_neg (by omega)]
theorem stoSet {w : World} {sb qb n c : Nat} {dead : Int} {B : Nat → List UInt8} (h : Sto w sb qb n c dead B) (j : Nat) (b : List UInt8) (hb : b.length ≤ 1000) : Sto (w.setCell ⟨qb, j, none⟩ (.string (str b))) sb qb n c dead (fun i => if i = j then b else B i) := by
 obtain ⟨cs, h1, h2⟩ := h.pgs
 refine ⟨(heap_setCell_other _ _ _ _ h.ne).trans h.sto, ⟨_, heap_setCell_same _ qb j _ _ _ h1, fun i hi => ?_⟩, h.le, h.ne, fun i hi => ?_⟩
 · have hlt : i < cs.size := (Array.getElem?_eq_some_iff.1 (h2 i hi)).1
   rw [Array.getElem?_setIfInBounds]
   by_cases e : i = j
   · subst e; rw [if_pos rfl, if_pos hlt, if_pos rfl]
   · rw [if_neg (fun h => e h.symm), if_neg e]; exact h2 i hi
 · by_cases e : i = j
   · rw [if_pos e]; exact hb
   · rw [if_neg e]; exact h.sm i hi
theorem stoCell {w : World} {sb qb n c : Nat} {dead : Int} {B : Nat → List UInt8} (h : Sto w sb qb n c dead B) (j : Nat) (hj : j < n) : w.cell? ⟨qb, j, none⟩ = some (.string (str (B j))) ∧ w.frozen? ⟨qb, j, none⟩ = false := by
 obtain ⟨cs, h1, h2⟩ := h.pgs
 exact ⟨(blk_cell h1 j).trans (h2 j hj), blk_free h1 j⟩
set_option maxRecDepth 100000 in
set_option maxHeartbeats 4000000 in
theorem newT_any (n : Nat) (w : World) (ht : Tab w) (h8 : 8 ≤ n) (h64 : n ≤ 64) :
 Calls Tryz.prog 14 #[.int .i64 n] w fun e w' => ∃ sb qb c, e = .returned (.pointer (some ⟨sb, 0, none⟩)) ∧ w.heap.size ≤ sb ∧ w.heap.size ≤ qb ∧ Below w.heap.size w w' ∧ Sto w' sb qb n c (-1) (bnew n 3) := by
 have hfm := format_ok n w h8 h64
 have hnew := fun W (k : Tab W) => snew_any n W k h8 h64
 have hput := fun W (k : Tab W) i hi => put_yes (pgNew n i) W k (pgNew_ok n i hi)
 have Ht := Lib.hid ht
 clear ht
 go_enter Tryz.func14, Tryz.ntmps14
 go_wp2_with fail
 with_reducible refine hfm.mono ?_
 rintro e w1 ⟨g, rfl, hg, hblk, hb1⟩
 have B1 := Lib.hid hb1
 have PG1 : Hid (w1.heap[g]? = some (.cells (flatP [pgNew n 0, pgNew n 1, pgNew n 2]).toArray 113 (0, 0))) := Lib.hid hblk
 have T1 := Lib.hid (Ht.out.below hb1)
 clear hb1 hblk hfm
 go_wp2_with fail
 with_reducible refine (hnew _ T1.out).mono ?_
 rintro e w2 ⟨sb, qb, c, rfl, hsb, hqb, hb2, hs2⟩
 have S2 : Hid (Sto w2 sb qb n c (-1) (bnew n 0)) := Lib.hid (by rw [bnew_zero]; exact hs2)
 have B2 := Lib.hid (below_base B1.out B1.out.size hb2)
 have hw1 := B1.out.size
 have PG2 := Lib.hid (blk_keep PG1.out hb2)
 have glt := lt_of_block PG1.out
 clear hb2 hs2 hnew
 go_wp2_with fail
 go_loopw [23] (fun v wr => ∃ k : Nat, v = .int .i64 (k : Nat) ∧ k ≤ 3 ∧ Hid (Sto wr sb qb n c (-1) (bnew n k)) ∧ Hid (Below w.heap.size w wr) ∧ Hid (wr.heap[g]? = some (.cells (flatP [pgNew n 0, pgNew n 1, pgNew n 2]).toArray 113 (0, 0)))) (fun v _ => 3 - (intOf v).toNat)
 case atStart => exact ⟨0, rfl, by omega, S2, B2, PG2⟩
 case round =>
  clear S2 B2 PG2
  obtain ⟨k, rfl, hk, S3, B3, PG3⟩ := hrel
  by_cases hlt : k < 3
  · have hkI : (k : Int) < 3 := by omega
    have hkn : (k : Int) < (n : Int) := by omega
    have i1w : IntKind.i64.wrap ((k : Int) + 1) = (k : Int) + 1 := IntWalk.i64_in _ (by omega)
    have hget : ([pgNew n 0, pgNew n 1, pgNew n 2])[k]'(by simpa using hlt) = pgNew n k := by rcases (show k = 0 ∨ k = 1 ∨ k = 2 by omega) with rfl | rfl | rfl <;> rfl
    have hc := fun r (hr : r < 4) (u : Value) (hu : (pcells (pgNew n k))[r]? = some u) => (show Hid (∀ W, Below wr.heap.size wr W → W.cell? ⟨g, k * 4 + r, none⟩ = some u) from Lib.hid (fun W hW => by
     rw [blk_cell (blk_keep PG3.out hW), List.getElem?_toArray, flatP_at (by simpa using hlt) r hr, hget]
     exact hu))
    have c0 := hc 0 (by omega) _ rfl
    have c1 := hc 1 (by omega) _ rfl
    have c2 := hc 2 (by omega) _ rfl
    have c3 := hc 3 (by omega) _ rfl
    rw [Nat.add_zero] at c0
    have hpt := fun W hW => hput W hW k hlt
    have lgr := lt_of_block PG3.out
    have hbl : (pgNew n k).bytes.length ≤ 1000 := by rw [Pag.bytes_len (pgNew_ok n k hlt)]; omega
    simp only [Pag.v] at hpt
    obtain ⟨PB, hPB⟩ : ∃ b, b = str (pgNew n k).bytes := ⟨_, rfl⟩
    obtain ⟨PL, hPL⟩ : ∃ b, b = str (pgNew n k).l := ⟨_, rfl⟩
    rw [← hPB, ← hPL] at hpt
    rw [← hPL] at c3
    have HPB := Lib.hid hPB
    generalize hP1 : (pgNew n k).k = P1 at *
    generalize hP2 : (pgNew n k).d = P2 at *
    generalize hP3 : (pgNew n k).x = P3 at *
    have TR := Lib.hid (Ht.out.below B3.out)
    have HPT := Lib.hid hpt
    clear hc hget hPB hPL hP1 hP2 hP3 hpt
    have d0 := c0.out wr (Below.refl _ _)
    have d1 := c1.out wr (Below.refl _ _)
    have d2 := c2.out wr (Below.refl _ _)
    have d3 := c3.out wr (Below.refl _ _)
    have cs0 := blk_cell S3.out.sto
    have ls0 := S3.out.lt1
    go_wp2_with fail
    go_region_law (go_simp; go_at_call 48; with_reducible refine (HPT.out _ (TR.out.below (below_dr (Below.refl _ _)))).mono ?_; rintro e w6 ⟨rfl, hb6⟩; have HH6 := Lib.hid (below_tr (below_dr (Below.refl _ wr)) hb6); have S6 := Lib.hid (S3.out.below HH6.out); have cq6 := (stoCell S6.out k (by omega)).1; have fq6 := (stoCell S6.out k (by omega)).2; have lq6 := S6.out.lt2; have cs6 := blk_cell S6.out.sto; have ls6 := S6.out.lt1)
    all_goals
     have SN : Hid (Sto (w6.setCell ⟨qb, k, none⟩ (.string PB)) sb qb n c (-1) (bnew n (k + 1))) := Lib.hid (by
      have h1 := stoSet S6.out k (pgNew n k).bytes hbl
      rw [bnew_step, ← HPB.out] at h1
      exact h1)
     have BN := Lib.hid (below_set (g := qb) (j := k) (u := .string PB) (below_base B3.out B3.out.size HH6.out) (by omega))
     have PN : Hid ((w6.setCell ⟨qb, k, none⟩ (.string PB)).heap[g]? = some (.cells (flatP [pgNew n 0, pgNew n 1, pgNew n 2]).toArray 113 (0, 0))) := Lib.hid ((heap_setCell_other _ _ _ _ (show g ≠ qb by omega)).trans (blk_keep PG3.out HH6.out))
     go_wp2_with fail
     go_roundw
     case rel => exact ⟨k + 1, by go_num, by omega, SN, BN, PN⟩
     case measure => clear i1w; simp [intOf]; omega
  · obtain rfl : k = 3 := by omega
    go_wp2_with fail
    go_ret
    exact ⟨sb, qb, c, rfl, by omega, by omega, B3.out, S3.out⟩
theorem newG_any (w0 w : World) (n sb qb c : Nat) (B : Nat → List UInt8) (pg : Nat → Pag) (ht : Tab w) (hs : Sto w sb qb n c (-1) B) (hsh : ∀ i, i < n → Shows (B i) (pg i)) (hb : Below w0.heap.size w0 w) :
 Calls Tryz.prog 15 #[rdv sb] w fun e w' => ∃ gb mb, e = .returned (.pointer (some ⟨gb, 0, none⟩)) ∧ GV w0 w' gb mb sb qb c n pg 0 ∧ w.heap.size ≤ gb ∧ w.heap.size ≤ mb ∧ Below w.heap.size w w' := by
 refine (gnew_any w sb).mono ?_
 rintro e w' ⟨gb, mb, rfl, hmb, hgb, hne, hb', hg⟩
 refine ⟨gb, mb, rfl, ⟨ht.below hb', ⟨B, none0, hs.below hb', hg, fun i hi => ⟨B i, rd_in hi, hsh i hi⟩⟩, hs.le, below_base hb hb.size hb', ?_⟩, hgb, hmb, hb'⟩
 have h1 := hs.lt1
 have h2 := hs.lt2
 have h3 := ht.lt
 have h4 := hb.size
 omega
end Go.Proofs.YtijhamllnnilbaaGreatDoor.Ha
namespace Go.Proofs.YtijhamllnnilbaaGreatDoor.Ha
open Go.RowKit Go.Proofs.YtijhamllnnilbaaGreatDoor.Mem Go.Proofs.YtijhamllnnilbaaGreatDoor.Pg Go.Proofs.YtijhamllnnilbaaGreatDoor.Kp Go.Proofs.YtijhamllnnilbaaGreatDoor.Sp Go.Proofs.YtijhamllnnilbaaGreatDoor.Gr
set_option linter.unusedSimpArgs false
set_option linter.unusedVariables false
section
variable {n D : Nat} {pg : Nat → Pag} {t : Tri} {ml : List UInt8} {X : List Nat}
theorem cells_look (T : Tb n pg D t) (x : Cel) : x ∈ cellsT t ↔ lookT t x.key = some x := by
 constructor
 · intro h
   obtain ⟨b, hb, hx⟩ := List.mem_flatMap.1 h
   exact look_mem T hb hx
 · intro h
   exact List.mem_flatMap.2 ⟨_, t.at_mem (sumF x.key), (lookF_mem h).1⟩
theorem keys_flat (T : Tb n pg D t) : ∀ l : List Lf, l.Nodup → (∀ b, b ∈ l → b ∈ t.leaves) → ((l.flatMap Lf.cells).map Cel.key).Nodup
 | [], _, _ => List.nodup_nil
 | b :: l, hn, h => by
  have h1 := List.nodup_cons.1 hn
  rw [List.flatMap_cons, List.map_append, List.nodup_append]
  refine ⟨T.keys b (h b (List.mem_cons_self ..)), keys_flat T l h1.2 (fun c hc => h c (List.mem_cons_of_mem _ hc)), fun a ha a' ha' e => ?_⟩
  obtain ⟨c, hc, rfl⟩ := List.mem_map.1 ha
  obtain ⟨c', hc', e'⟩ := List.mem_map.1 ha'
  obtain ⟨b', hb', hcb'⟩ := List.mem_flatMap.1 hc'
  have e1 := T.lead b (h b (List.mem_cons_self ..)) c hc
  have e2 := T.lead b' (h b' (List.mem_cons_of_mem _ hb')) c' hcb'
  rw [e', ← e, e1] at e2
  exact h1.1 (e2 ▸ hb')
theorem cells_nodup (T : Tb n pg D t) : ((cellsT t).map Cel.key).Nodup := keys_flat T t.leaves (leaves_nodup T) (fun b h => h)
theorem nodup_of_map {α β : Type} (f : α → β) {l : List α} (h : (l.map f).Nodup) : l.Nodup := List.Pairwise.of_map f (fun a b h e => h (by rw [e])) h
theorem cells_one (T : Tb n pg D t) (x : Cel) (hl : ∀ k, lookT t k = if k = x.key then some x else none) : cellsT t = [x] := by
 have hp : (cellsT t).Perm [x] := (List.perm_ext_iff_of_nodup (nodup_of_map _ (cells_nodup T)) (List.nodup_cons.2 ⟨List.not_mem_nil, List.nodup_nil⟩)).2 fun c => by
  rw [cells_look T, hl, List.mem_singleton]
  constructor
  · intro h
    by_cases e : c.key = x.key
    · rw [if_pos e] at h; injection h with h; exact h.symm
    · rw [if_neg e] at h; cases h
  · intro h; subst h; rw [if_pos rfl]
 exact List.perm_singleton.1 hp
end
theorem getRes_yes {k : List UInt8} {l : List Cel} {c : Cel} (h : lookF k l = some c) : getRes k l = .returned (.tuple #[c.v, .int .i64 0]) := by unfold getRes; rw [h]
theorem getRes_no {k : List UInt8} {l : List Cel} (h : lookF k l = none) : getRes k l = .returned (.tuple #[zcV, .int .i64 3]) := by unfold getRes; rw [h]
theorem set_room {w0 w' : World} {gb mb sb qb c n D : Nat} {t : Tri} {X : List Nat} {tk0 : Int} {x : Cel} {grow : Bool} {e : Ending} (hr : grow = true → ¬ NoFit x ((cutT x.key t).at' (sumF x.key)).pgs) (hr2 : ¬ NoFit x ((cutT x.key t).at' (sumF x.key)).pgs) (h : SetPost w0 gb mb sb qb c n D t X tk0 x grow e w') :
 e = .returned (.int .i64 0) ∧ ∃ pg' t' ml', St w0 w' gb mb sb qb c n pg' D t' ml' X tk0 ∧ SetOk x grow t t' ∧ ∀ k, lookT t' k = if k = x.key then some x else lookT t k := by
 rcases h with ⟨he, pg', D', t', ml', h1, h2, h3, h4⟩ | ⟨_, pg', D', t', ml', _, h2, h3, _⟩
 · rcases h4 with rfl | ⟨h5, h6⟩
   · exact ⟨he, pg', t', ml', h1, h2, h3⟩
   · exact absurd h6 (hr h5)
 · cases h2 with
   | refl => exact absurd h3 hr2
   | step _ hn => exact absurd hn hr2
theorem room00 (x : Cel) (hx : x.ok) : ¬ NoFit x ((cutT x.key t00).at' (sumF x.key)).pgs := fun h => by
 rw [cutT_none (has00 _ _)] at h
 have h1 := h 0 2 [] rfl
 have h2 := sz_le x hx
 have h3 : szs (ins x []) = x.sz := by simp [ins, szs]
 omega
def AllIn (t : Tri) : Prop := ∀ b, b ∈ t.leaves → ∀ x, x ∈ b.cells → x.blob = 0
theorem AllIn.at' {n : Nat} {pg : Nat → Pag} {t : Tri} (h : AllIn t) : ∀ b, b ∈ t.leaves → ∀ x, x ∈ b.cells → BlobAt n pg x x.val [] := fun b hb x hx => .inl ⟨h b hb x hx, rfl, rfl⟩
theorem flat_nil {α β : Type} (l : List α) : l.flatMap (fun _ => ([] : List β)) = [] := by
 induction l with
 | nil => rfl
 | cons a r ih => rw [List.flatMap_cons, ih]; rfl
theorem dump_single (w0 W : World) (gb mb sb qb c n D : Nat) (pg : Nat → Pag) (tk : Int) (t : Tri) (hW : GV w0 W gb mb sb qb c n pg tk) (T : Tb n pg D t) (x : Cel) (v : List UInt8) (l : List Nat) (hc : cellsT t = [x]) (hx : BlobAt n pg x v l) :
 Calls Tryz.prog 19 #[.pointer (some ⟨gb, 0, none⟩)] W fun e w' => ∃ g cap, e = .returned (.tuple #[.slice (some ⟨g, 0, none⟩) 1 cap, .int .i64 0]) ∧ w'.cell? ⟨g, 0, none⟩ = some (.string (str x.key)) ∧ w'.cell? ⟨g, 1, none⟩ = some (.string (str v)) ∧ g < w'.heap.size ∧
  GV w0 w' gb mb sb qb c n pg tk ∧ Below W.heap.size W w' := by
 have hone : ∀ b, b ∈ t.leaves → ∀ y, y ∈ b.cells → y = x := fun b hb y hy => by
  have h : y ∈ cellsT t := List.mem_flatMap.2 ⟨b, hb, hy⟩
  rw [hc] at h
  exact List.mem_singleton.1 h
 refine (dump_ok w0 W gb mb sb qb c n D pg tk t hW T (fun _ => v) (fun _ => l) (fun b hb y hy => by rw [hone b hb y hy]; exact hx)).mono ?_
 rintro e w' ⟨A, cap, es, rfl, hown, hp, _, hg, hb⟩
 have h1 : ((celsF t (fstT t (2 ^ D))).map (entOf (fun _ => v))).Perm [(x.key, v)] := by
  have h2 := (celsF_perm T).map (entOf (fun _ => v))
  rw [hc] at h2
  exact h2
 have h3 := List.perm_singleton.1 (hp.trans h1)
 subst h3
 obtain ⟨g, cap', h4, _, h5⟩ := hown.form (by simp)
 have h6 : A = some ⟨g, 0, none⟩ := by injection h4
 subst h6
 exact ⟨g, cap, rfl, own_at hown 0 _ rfl, own_at hown 1 _ rfl, h5, hg, hb⟩
theorem ints_none (w : World) (c : Nat) : Ints w none ([] : List Nat).length (toI []) := ⟨rfl, by simp, fun h => absurd h (by simp)⟩
theorem check_in (w0 W : World) (gb mb sb qb c n D : Nat) (pg : Nat → Pag) (tk : Int) (t : Tri) (ml : List UInt8) (hW : GV w0 W gb mb sb qb c n pg tk) (H : Hs n pg D t ml []) (hin : AllIn t) :
 Calls Tryz.prog 21 #[.pointer (some ⟨gb, 0, none⟩), .int .i64 n, .slice none 0 0] W fun e w' => e = .returned (.int .i64 0) ∧ GV w0 w' gb mb sb qb c n pg tk ∧ Below W.heap.size W w' := by
 have h := check_ok w0 W gb mb sb qb c n D pg tk t ml [] hW H Cel.val (fun _ => []) hin.at' [] [] none 0 (ints_none W 0) (fun b off e => by cases e) (by rw [flat_nil]; exact List.Perm.refl _)
 rw [if_pos rfl] at h
 exact h
set_option maxRecDepth 100000 in
set_option maxHeartbeats 4000000 in
theorem alive_any (w : World) (ht : Tab w) :
 Calls Tryz.prog 13 #[] w fun e w' => e = .returned (.bool true) ∧ Below w.heap.size w w' := by
 have hnew : ∀ W, Tab W → Calls Tryz.prog 14 #[.int .i64 8] W fun e w' => ∃ sb qb c, e = .returned (.pointer (some ⟨sb, 0, none⟩)) ∧ W.heap.size ≤ sb ∧ W.heap.size ≤ qb ∧ Below W.heap.size W w' ∧ Sto w' sb qb 8 c (-1) (bnew 8 3) := fun W h => newT_any 8 W h (by omega) (by omega)
 have hko : keyOk [107] := ⟨by simp, by simp⟩
 have hxo : (celV [107]).ok := (Cel.ok_iff _).2 ⟨hko, .inl ⟨rfl, by show (1 : Nat) ≤ 40; omega, rfl⟩⟩
 have Ht := Lib.hid ht
 have HKO := Lib.hid hko
 have HXO := Lib.hid hxo
 clear ht hko hxo
 go_enter Tryz.func13, Tryz.ntmps13
 go_wp2_with fail
 with_reducible refine (hnew _ Ht.out).mono ?_
 rintro e w1 ⟨sb, qb, c, rfl, hsb, hqb, hb1, hs1⟩
 have T1 := Lib.hid (Ht.out.below hb1)
 have S1 := Lib.hid hs1
 have B1 := Lib.hid hb1
 clear hs1 hb1 hnew
 go_wp2_with fail
 with_reducible refine (newG_any w w1 8 sb qb c (bnew 8 3) (pgNew 8) T1.out S1.out (fun i _ => bnew_shows 8 i) B1.out).mono ?_
 rintro e w2 ⟨gb, mb, rfl, hgv, hgb, hmb, hb2⟩
 have hw1 := B1.out.size
 have hw2 := hb2.size
 have S2 : Hid (St w w2 gb mb sb qb c 8 (pgNew 8) 0 t00 (fmtL 8) [] (-1)) := Lib.hid ⟨hgv, hs_new 8 (by omega) (by omega)⟩
 have B2 := Lib.hid (below_base B1.out hw1 hb2)
 have hst : Calls Tryz.prog 24 #[.pointer (some ⟨gb, 0, none⟩), .string ⟨#[107]⟩, .string ⟨#[118]⟩] w2 fun e w' => e = .returned (.tuple #[.agg #[.string ⟨#[107]⟩, .string ⟨#[118]⟩, .int .i64 0, .int .i64 0], .slice none 0 0, .int .i64 0]) ∧ Below w2.heap.size w2 w' := store_inline w2 gb [107] [118] HKO.out (by show (1 : Nat) ≤ 40; omega)
 have hgl2 := hgv.lt
 clear hgv hb2
 go_wp2_with fail
 with_reducible refine hst.mono ?_
 rintro e w3 ⟨rfl, hb3⟩
 have z3 := heap_alloc_new w3 (celO ⟨#[107]⟩ ⟨#[118]⟩ 0 0)
 have BB3 := below_al hb3 (celO ⟨#[107]⟩ ⟨#[118]⟩ 0 0)
 have S3 : Hid (St w (w3.alloc (celO ⟨#[107]⟩ ⟨#[118]⟩ 0 0)) gb mb sb qb c 8 (pgNew 8) 0 t00 (fmtL 8) [] (-1)) := Lib.hid ⟨S2.out.gv.rk BB3, S2.out.hs⟩
 have B3 := Lib.hid (below_base B2.out B2.out.size BB3)
 have hw3 := hb3.size
 have Z3 := Lib.hid z3
 have cz := blk_cell z3
 have lz := lt_of_block z3
 have hset : Calls Tryz.prog 18 #[.pointer (some ⟨gb, 0, none⟩), .agg #[.string ⟨#[107]⟩, .string ⟨#[118]⟩, .int .i64 0, .int .i64 0], .bool true] (w3.alloc (celO ⟨#[107]⟩ ⟨#[118]⟩ 0 0)) fun e w' => SetPost w gb mb sb qb c 8 0 t00 [] (-1) (celV [107]) true e w' ∧ Wk w.heap.size gb mb (w3.alloc (celO ⟨#[107]⟩ ⟨#[118]⟩ 0 0)) w' :=
  set_ok w _ gb mb sb qb c 8 0 (pgNew 8) t00 (fmtL 8) [] (-1) (celV [107]) true S3.out HXO.out (by omega) (fun _ => split_law w gb mb sb qb c 8 [] (-1) [107] (by show (1 : Nat) ≤ 1000; omega) (by omega))
 clear hb3 BB3 hst z3
 go_wp2_with fail
 with_reducible refine hset.mono ?_
 rintro e w4 ⟨hp4, hk4⟩
 obtain ⟨rfl, pg4, t4, ml4, st4, _, hl4⟩ := set_room (fun _ => room00 _ HXO.out) (room00 _ HXO.out) hp4
 have hcell := cells_one st4.hs.tb (celV [107]) (fun k => by rw [hl4 k, look00])
 have hlk : lookF [107] (t4.at' (sumF [107])).cells = some (celV [107]) := (hl4 [107]).trans (if_pos rfl)
 have hget : ∀ W (hW : GV w W gb mb sb qb c 8 pg4 (-1 + ((numsF t4.leaves).length : Int))), Calls Tryz.prog 25 #[.pointer (some ⟨gb, 0, none⟩), .string ⟨#[107]⟩] W fun e w' => e = .returned (.tuple #[.agg #[.string ⟨#[107]⟩, .string ⟨#[118]⟩, .int .i64 0, .int .i64 0], .int .i64 0]) ∧ GV w w' gb mb sb qb c 8 pg4 (-1 + ((numsF t4.leaves).length : Int)) ∧ Rk w.heap.size W w' := fun W hW => by
  have h := get_ok w W gb mb sb qb c 8 0 pg4 _ t4 [107] hW st4.hs.tb
  rw [if_pos HKO.out, getRes_yes hlk] at h
  exact h
 have hin : AllIn t4 := fun b hb x hx => by
  have h : x ∈ cellsT t4 := List.mem_flatMap.2 ⟨b, hb, hx⟩
  rw [hcell] at h
  rw [List.mem_singleton.1 h]; rfl
 have hdump := fun W (hW : GV w W gb mb sb qb c 8 pg4 (-1 + ((numsF t4.leaves).length : Int))) => dump_single w W gb mb sb qb c 8 0 pg4 _ t4 hW st4.hs.tb (celV [107]) [118] [] hcell (.inl ⟨rfl, rfl, rfl⟩)
 have hcheck := fun W (hW : GV w W gb mb sb qb c 8 pg4 (-1 + ((numsF t4.leaves).length : Int))) => check_in w W gb mb sb qb c 8 0 pg4 _ t4 ml4 hW st4.hs hin
 have hdepth := fun W (hW : GV w W gb mb sb qb c 8 pg4 (-1 + ((numsF t4.leaves).length : Int))) => depth_ok w W gb mb sb qb c 8 0 pg4 _ t4 hW st4.hs.tb
 have HDUMP : Hid (∀ W, GV w W gb mb sb qb c 8 pg4 (-1 + ((numsF t4.leaves).length : Int)) → Calls Tryz.prog 19 #[.pointer (some ⟨gb, 0, none⟩)] W fun e w' => ∃ g cap, e = .returned (.tuple #[.slice (some ⟨g, 0, none⟩) 1 cap, .int .i64 0]) ∧ w'.cell? ⟨g, 0, none⟩ = some (.string ⟨#[107]⟩) ∧ w'.cell? ⟨g, 1, none⟩ = some (.string ⟨#[118]⟩) ∧ g < w'.heap.size ∧
  GV w w' gb mb sb qb c 8 pg4 (-1 + ((numsF t4.leaves).length : Int)) ∧ Below W.heap.size W w') := Lib.hid hdump
 have HCHECK : Hid (∀ W, GV w W gb mb sb qb c 8 pg4 (-1 + ((numsF t4.leaves).length : Int)) → Calls Tryz.prog 21 #[.pointer (some ⟨gb, 0, none⟩), .int .i64 8, .slice none 0 0] W fun e w' => e = .returned (.int .i64 0) ∧ GV w w' gb mb sb qb c 8 pg4 (-1 + ((numsF t4.leaves).length : Int)) ∧ Below W.heap.size W w') := Lib.hid hcheck
 have HDEPTH := Lib.hid hdepth
 have G4 := Lib.hid st4.gv
 have Z4 := Lib.hid (hk4.blk Z3.out (by omega) (by omega) (by omega))
 have B4 := Lib.hid (below_keep B3.out B3.out.size hk4.keep (by rintro i (rfl | rfl) <;> omega))
 clear hin hdump hcheck hdepth hlk hcell hl4 st4 hp4 hset cz lz hk4
 go_wp2_with fail
 with_reducible refine (hget _ G4.out).mono ?_
 rintro e w5 ⟨rfl, g5, k5⟩
 have z5 := heap_alloc_new w5 (celO ⟨#[107]⟩ ⟨#[118]⟩ 0 0)
 have BB5 := below_al k5.bel (celO ⟨#[107]⟩ ⟨#[118]⟩ 0 0)
 have G5 := Lib.hid (G4.out.rk BB5)
 have Z5 := Lib.hid z5
 have Y5 := Lib.hid (blk_keep Z4.out BB5)
 have B5 := Lib.hid (below_base B4.out B4.out.size BB5)
 clear hget g5 k5 z5 BB5 G4
 go_wp2_with fail
 with_reducible refine (HDUMP.out _ G5.out).mono ?_
 rintro e w6 ⟨g, cap, rfl, d0, d1, dl, g6, hb6⟩
 have G6 := Lib.hid g6
 have Z6 := Lib.hid (blk_keep Z5.out hb6)
 have Y6 := Lib.hid (blk_keep Y5.out hb6)
 have B6 := Lib.hid (below_base B5.out B5.out.size hb6)
 have cz := blk_cell Z6.out
 have lz := lt_of_block Z6.out
 have cy := blk_cell Y6.out
 have ly := lt_of_block Y6.out
 clear g6 hb6 HDUMP
 go_wp2_with fail
 with_reducible refine (HCHECK.out _ G6.out).mono ?_
 rintro e w7 ⟨rfl, g7, hb7⟩
 have G7 := Lib.hid g7
 have B7 := Lib.hid (below_base B6.out B6.out.size hb7)
 clear g7 hb7
 go_wp2_with fail
 with_reducible refine (HDEPTH.out _ G7.out).mono ?_
 rintro e w8 ⟨rfl, g8, k8⟩
 have B8 := Lib.hid (below_base B7.out B7.out.size k8.bel)
 clear g8 k8
 go_wp2_with fail
 go_ret
 exact ⟨rfl, B8.out⟩
end Go.Proofs.YtijhamllnnilbaaGreatDoor.Ha
namespace Go.Proofs.YtijhamllnnilbaaGreatDoor.Ha
open Go.RowKit Go.Proofs.YtijhamllnnilbaaGreatDoor.Mem Go.Proofs.YtijhamllnnilbaaGreatDoor.Pg Go.Proofs.YtijhamllnnilbaaGreatDoor.Gr Go.Proofs.YtijhamllnnilbaaGreatDoor.Sp
set_option linter.unusedVariables false
set_option linter.unusedSimpArgs false
theorem BlobAt.same {n : Nat} {pg pg' : Nat → Pag} {x : Cel} {v : List UInt8} {l : List Nat} (h : BlobAt n pg x v l) (hs : ∀ m, m ∈ l → pg' m = pg m) : BlobAt n pg' x v l := by
 rcases h with h | ⟨h1, h2, h3, h4, h5, h6, h7, h8⟩
 · exact .inl h
 · exact .inr ⟨h1, h2, h3, h4, h5, h6, fun i m hi => (hs m (List.mem_of_getElem? hi)).trans (h7 i m hi), h8⟩
abbrev Mp := List UInt8 → Option (List UInt8)
def updM (F : Mp) (k : List UInt8) (v : Option (List UInt8)) : Mp := fun q => if q = k then v else F q
structure Vt (n : Nat) (pg : Nat → Pag) (t : Tri) (X R : List Nat) (F : Mp) (pl : Cel → List Nat) : Prop where
 val : ∀ x, x ∈ cellsT t → ∃ v, F x.key = some v ∧ BlobAt n pg x v (pl x)
 none : ∀ k, lookT t k = .none → F k = .none
 used : X.Perm ((cellsT t).flatMap pl ++ R)
def plOf (t : Tri) (pl : Cel → List Nat) (k : List UInt8) : List Nat := match lookT t k with | some y => pl y | .none => []
theorem plOf_some {t : Tri} {pl : Cel → List Nat} {k : List UInt8} {y : Cel} (h : lookT t k = some y) : plOf t pl k = pl y := by unfold plOf; rw [h]
theorem plOf_none {t : Tri} {pl : Cel → List Nat} {k : List UInt8} (h : lookT t k = .none) : plOf t pl k = [] := by unfold plOf; rw [h]
variable {n n' D D' : Nat} {pg pg' pg1 pg2 : Nat → Pag} {t t' : Tri} {ml ml' : List UInt8} {X R : List Nat} {F : Mp} {pl : Cel → List Nat}
theorem Vt.memX (V : Vt n pg t X R F pl) {x : Cel} (hx : x ∈ cellsT t) {m : Nat} (hm : m ∈ pl x) : m ∈ X :=
 V.used.mem_iff.2 (List.mem_append_left _ (List.mem_flatMap.2 ⟨x, hx, hm⟩))
theorem Vt.frame (V : Vt n pg t X R F pl) (h : SameX X pg pg') : Vt n pg' t X R F pl :=
 ⟨fun x hx => by
  obtain ⟨v, h1, h2⟩ := V.val x hx
  exact ⟨v, h1, h2.same (fun m hm => h m (V.memX hx hm))⟩, V.none, V.used⟩
theorem Vt.look (V : Vt n pg t X R F pl) (T : Tb n' pg1 D t) (k : List UInt8) : (lookT t k = .none ∧ F k = .none) ∨ ∃ x v, lookT t k = some x ∧ x.key = k ∧ F k = some v ∧ x ∈ cellsT t ∧ x.ok ∧ BlobAt n pg x v (pl x) := by
 cases e : lookT t k with
 | none => exact .inl ⟨rfl, V.none k e⟩
 | some x =>
  have hk : x.key = k := (lookF_mem e).2
  have hx : x ∈ cellsT t := (cells_look T x).2 (by rw [hk]; exact e)
  obtain ⟨v, h1, h2⟩ := V.val x hx
  obtain ⟨b, hb, hxb⟩ := List.mem_flatMap.1 hx
  exact .inr ⟨x, v, rfl, hk, by rw [← hk]; exact h1, hx, cel_ok T hb hxb, h2⟩
def vlF (F : Mp) (x : Cel) : List UInt8 := (F x.key).getD []
theorem Vt.vals (V : Vt n pg t X R F pl) : ∀ b, b ∈ t.leaves → ∀ x, x ∈ b.cells → BlobAt n pg x (vlF F x) (pl x) := fun b hb x hx => by
 obtain ⟨v, h1, h2⟩ := V.val x (List.mem_flatMap.2 ⟨b, hb, hx⟩)
 unfold vlF
 rw [h1]
 exact h2
theorem Vt.usedE (V : Vt n pg t X R F pl) : X.Perm ((cellsT t).flatMap pl ++ [] ++ R) := by rw [List.append_nil]; exact V.used
theorem cells_no (T : Tb n pg D t) (k : List UInt8) (h : lookT t k = .none) : (cellsT t).filter (fun c => !(c.key == k)) = cellsT t := by
 rw [List.filter_eq_self]
 intro c hc
 have h1 := (cells_look T c).1 hc
 have : c.key ≠ k := fun e => by rw [e, h] at h1; cases h1
 simpa using this
theorem cells_yes (T : Tb n pg D t) (k : List UInt8) (y : Cel) (h : lookT t k = some y) : (cellsT t).Perm (y :: (cellsT t).filter (fun c => !(c.key == k))) := by
 have hk : y.key = k := (lookF_mem h).2
 refine (List.perm_ext_iff_of_nodup (nodup_of_map _ (cells_nodup T)) (List.nodup_cons.2 ⟨fun h1 => ?_, (nodup_of_map _ (cells_nodup T)).filter _⟩)).2 fun c => ?_
 · have h2 := (List.mem_filter.1 h1).2
   simp [hk] at h2
 · rw [List.mem_cons, List.mem_filter]
   constructor
   · intro hc
     by_cases e : c.key = k
     · have h1 := (cells_look T c).1 hc
       rw [e, h] at h1
       injection h1 with h1
       exact .inl h1.symm
     · exact .inr ⟨hc, by simpa using e⟩
   · rintro (rfl | ⟨hc, _⟩)
     · exact (cells_look T c).2 (by rw [hk]; exact h)
     · exact hc
theorem cells_put (T : Tb n pg D t) (T' : Tb n' pg' D' t') (x : Cel) (hl : ∀ k, lookT t' k = if k = x.key then some x else lookT t k) : (cellsT t').Perm (x :: (cellsT t).filter (fun c => !(c.key == x.key))) := by
 refine (List.perm_ext_iff_of_nodup (nodup_of_map _ (cells_nodup T')) (List.nodup_cons.2 ⟨fun h1 => ?_, (nodup_of_map _ (cells_nodup T)).filter _⟩)).2 fun c => ?_
 · have h2 := (List.mem_filter.1 h1).2
   simp at h2
 · rw [cells_look T', hl, List.mem_cons, List.mem_filter, cells_look T]
   by_cases e : c.key = x.key
   · rw [if_pos e]
     constructor
     · intro h; injection h with h; exact .inl h.symm
     · rintro (h | ⟨_, h⟩)
       · rw [h]
       · simp [e] at h
   · rw [if_neg e]
     constructor
     · intro h; exact .inr ⟨h, by simpa using e⟩
     · rintro (h | ⟨h, _⟩)
       · exact absurd (by rw [h]) e
       · exact h
theorem flat_part (T : Tb n pg D t) (k : List UInt8) (pl : Cel → List Nat) : ((cellsT t).flatMap pl).Perm (plOf t pl k ++ ((cellsT t).filter (fun c => !(c.key == k))).flatMap pl) := by
 cases e : lookT t k with
 | none => rw [cells_no T k e, plOf_none e]; exact List.Perm.refl _
 | some y =>
  rw [plOf_some e]
  have h := (cells_yes T k y e).flatMap_right pl
  rw [List.flatMap_cons] at h
  exact h
theorem flat_congr {α β : Type} (f g : α → List β) : ∀ l : List α, (∀ a, a ∈ l → f a = g a) → l.flatMap f = l.flatMap g
 | [], _ => rfl
 | a :: l, h => by rw [List.flatMap_cons, List.flatMap_cons, h a (List.mem_cons_self ..), flat_congr f g l (fun b hb => h b (List.mem_cons_of_mem _ hb))]
theorem Vt.put (V : Vt n pg t X R F pl) (T : Tb n' pg1 D t) (T' : Tb n' pg2 D' t') (x : Cel) (v : List UInt8) (l R1 : List Nat) (hl : ∀ k, lookT t' k = if k = x.key then some x else lookT t k) (hx : BlobAt n pg x v l) (hR : R.Perm (l ++ R1)) :
 Vt n pg t' X (plOf t pl x.key ++ R1) (updM F x.key (some v)) (fun c => if c.key = x.key then l else pl c) := by
 have hp := cells_put T T' x hl
 refine ⟨fun y hy => ?_, fun k hk => ?_, ?_⟩
 · rcases List.mem_cons.1 (hp.mem_iff.1 hy) with rfl | h1
   · exact ⟨v, by unfold updM; rw [if_pos rfl], by simpa using hx⟩
   · obtain ⟨h2, h3⟩ := List.mem_filter.1 h1
     have hne : ¬ y.key = x.key := by simpa using h3
     obtain ⟨u, h4, h5⟩ := V.val y h2
     exact ⟨u, by unfold updM; rw [if_neg hne]; exact h4, by simpa [hne] using h5⟩
 · rw [hl] at hk
   unfold updM
   by_cases e : k = x.key
   · rw [if_pos e] at hk; cases hk
   · rw [if_neg e] at hk ⊢
     exact V.none k hk
 · have e1 := hp.flatMap_right (fun c => if c.key = x.key then l else pl c)
   have e0 := flat_congr (fun c : Cel => if c.key = x.key then l else pl c) pl ((cellsT t).filter (fun c => !(c.key == x.key))) (fun c hc => if_neg (by simpa using (List.mem_filter.1 hc).2))
   rw [List.flatMap_cons, if_pos rfl, e0] at e1
   have e2 := V.used.trans ((flat_part T x.key pl).append hR)
   refine e2.trans (List.Perm.trans ?_ (e1.append_right _).symm)
   generalize plOf t pl x.key = a
   generalize ((cellsT t).filter _).flatMap pl = b
   have : (a ++ b ++ (l ++ R1)).Perm (l ++ b ++ (a ++ R1)) := by
    rw [List.append_assoc, List.append_assoc]
    refine (List.perm_append_comm_assoc a b (l ++ R1)).trans ?_
    refine ((List.perm_append_comm_assoc a l R1).append_left b).trans ?_
    exact List.perm_append_comm_assoc b l (a ++ R1)
   exact this
theorem Vt.take (V : Vt n pg t X R F pl) (l : List Nat) : Vt n pg t (X ++ l) (R ++ l) F pl := ⟨V.val, V.none, by rw [← List.append_assoc]; exact V.used.append_right l⟩
theorem vt00 (n : Nat) (pg : Nat → Pag) (pl : Cel → List Nat) : Vt n pg t00 [] [] (fun _ => .none) pl :=
 ⟨(fun x hx => by cases hx), (fun k _ => rfl), List.Perm.refl _⟩
end Go.Proofs.YtijhamllnnilbaaGreatDoor.Ha
namespace Go.Proofs.YtijhamllnnilbaaGreatDoor.Ha
open Go.RowKit Go.Proofs.YtijhamllnnilbaaGreatDoor.Mem Go.Proofs.YtijhamllnnilbaaGreatDoor.Pg Go.Proofs.YtijhamllnnilbaaGreatDoor.Kp Go.Proofs.YtijhamllnnilbaaGreatDoor.Sp Go.Proofs.YtijhamllnnilbaaGreatDoor.Gr
set_option linter.unusedSimpArgs false
set_option linter.unusedVariables false
theorem St.below {w0 w w' : World} {gb mb sb qb c n D : Nat} {pg : Nat → Pag} {t : Tri} {ml : List UInt8} {X : List Nat} {tk0 : Int} (h : St w0 w gb mb sb qb c n pg D t ml X tk0) (k : Below w.heap.size w w') : St w0 w' gb mb sb qb c n pg D t ml X tk0 := ⟨h.gv.below k, h.hs⟩
end Go.Proofs.YtijhamllnnilbaaGreatDoor.Ha
namespace Go.Proofs.YtijhamllnnilbaaGreatDoor.Ha
open Go.RowKit Go.Proofs.YtijhamllnnilbaaGreatDoor.Mem Go.Proofs.YtijhamllnnilbaaGreatDoor.Pg Go.Proofs.YtijhamllnnilbaaGreatDoor.Kp Go.Proofs.YtijhamllnnilbaaGreatDoor.Sp Go.Proofs.YtijhamllnnilbaaGreatDoor.Gr
set_option linter.unusedSimpArgs false
set_option linter.unusedVariables false
def pgV (v : List UInt8) : Nat := if v.length ≤ 40 then 0 else Bl.pgN v.length
theorem pgV_le (v : List UInt8) : pgV v ≤ 2 := by unfold pgV; split; omega; exact Bl.pgN_le _
theorem BlobAt.len {n : Nat} {pg : Nat → Pag} {x : Cel} {v : List UInt8} {l : List Nat} (h : BlobAt n pg x v l) (hx : x.ok) : l.length = pgV v := by
 unfold pgV
 rcases h with ⟨h1, h2, h3⟩ | ⟨h1, _, _, h4, _⟩
 · have h5 := hx.rest
   rcases h5 with ⟨_, h6, _⟩ | ⟨h6, _⟩
   · rw [h3, h2, if_pos h6]; rfl
   · omega
 · rw [if_neg (by omega)]; exact h4
section
variable {w0 w : World} {gb mb sb qb c n D : Nat} {pg : Nat → Pag} {t : Tri} {ml : List UInt8} {X R : List Nat} {tk0 : Int} {F : Mp} {pl : Cel → List Nat}
def StoreAll (w0 w : World) (gb mb sb qb c n : Nat) (pg : Nat → Pag) (D : Nat) (t : Tri) (X : List Nat) (tk0 : Int) (key val : List UInt8) (e : Ending) (w' : World) : Prop :=
 (∃ (x : Cel) (l : List Nat) (B : Option Addr) (cc : Nat) (pg' : Nat → Pag) (ml' : List UInt8), e = .returned (.tuple #[x.v, .slice B l.length cc, .int .i64 0]) ∧ x.key = key ∧ x.ok ∧ BlobAt n pg' x val l ∧
  w'.ownsRow w.heap.size 3 1 (.slice B l.length cc) l.length (natV l) ∧ St w0 w' gb mb sb qb c n pg' D t ml' (X ++ l) (tk0 + l.length) ∧ SameX X pg pg') ∨
 (e = .returned (.tuple #[zcV, .slice none 0 0, .int .i64 6]) ∧ (numsF t.leaves).length + X.length + 2 + pgV val > n)
theorem store_all (h : St w0 w gb mb sb qb c n pg D t ml X tk0) (key val : List UInt8) (hk : keyOk key) (hv : val.length ≤ 400) (htk : -900000 ≤ tk0 ∧ tk0 ≤ 900000) :
 Calls Tryz.prog 24 #[.pointer (some ⟨gb, 0, none⟩), .string (str key), .string (str val)] w fun e w' => StoreAll w0 w gb mb sb qb c n pg D t X tk0 key val e w' ∧ Wk w0.heap.size gb mb w w' := by
 by_cases h40 : val.length ≤ 40
 · refine (store_inline w gb key val hk h40).mono ?_
   rintro e w' ⟨rfl, hb⟩
   refine ⟨.inl ⟨⟨key, val, 0, 0⟩, [], none, 0, pg, ml, rfl, rfl, (Cel.ok_iff _).2 ⟨hk, .inl ⟨rfl, h40, rfl⟩⟩, .inl ⟨rfl, rfl, rfl⟩, ⟨rfl, .inl ⟨rfl, rfl⟩⟩, ?_, .refl _ _⟩, .of_below hb⟩
   rw [List.append_nil]
   have e : tk0 + ((([] : List Nat).length : Nat) : Int) = tk0 := by simp
   rw [e]
   exact h.below hb
 · refine (store_blob w0 w gb mb sb qb c n D pg t ml X tk0 key val h hk ⟨by omega, hv⟩ htk).mono ?_
   rintro e w' ⟨hp, hw⟩
   rcases hp with ⟨l, B, cc, pg', ml', rfl, hl, hown, hbl, hst, hsx⟩ | ⟨rfl, l, pg', ml', hst, hl, htk'⟩
   · have hpg := Bl.pgN_le val.length
     have hb0 : (l.getD 0 0) ∈ l := by
      have hpos : 0 < l.length := by rw [hl]; unfold Bl.pgN; split <;> omega
      rw [List.getD_eq_getElem?_getD, List.getElem?_eq_getElem hpos]
      exact List.getElem_mem hpos
     have hr2 := hst.hs.xr _ (List.mem_append_right X hb0)
     have h64 := hst.gv.n64
     exact ⟨.inl ⟨_, l, B, cc, pg', ml', rfl, rfl, (Cel.ok_iff _).2 ⟨hk, .inr ⟨hr2.1, by show l.getD 0 0 < 64; omega, rfl, by show 40 < val.length; omega, hv⟩⟩, hbl, hown, hst, hsx⟩, hw⟩
   · have h1 := (take_free hst.hs).1 htk'
     rw [List.length_append] at h1
     refine ⟨.inr ⟨rfl, ?_⟩, hw⟩
     unfold pgV
     rw [if_neg h40]
     omega
theorem Vt.stored {pg' : Nat → Pag} (V : Vt n pg t X R F pl) (l : List Nat) (h : SameX X pg pg') : Vt n pg' t (X ++ l) (R ++ l) F pl := (V.frame h).take l
theorem check_vt (h : St w0 w gb mb sb qb c n pg D t ml X tk0) (V : Vt n pg t X [] F pl) :
 Calls Tryz.prog 21 #[.pointer (some ⟨gb, 0, none⟩), .int .i64 n, .slice none 0 0] w fun e w' => e = .returned (.int .i64 0) ∧ St w0 w' gb mb sb qb c n pg D t ml X tk0 ∧ Below w.heap.size w w' := by
 have hc := check_ok w0 w gb mb sb qb c n D pg _ t ml X h.gv h.hs (vlF F) pl V.vals [] [] none 0 (ints_none w 0) (fun b off e => by cases e) V.usedE
 rw [if_pos rfl] at hc
 exact hc.mono fun e w' ⟨h1, h2, h3⟩ => ⟨h1, ⟨h2, h.hs⟩, h3⟩
theorem get_vt (h : St w0 w gb mb sb qb c n pg D t ml X tk0) (V : Vt n pg t X R F pl) (k : List UInt8) (hk : keyOk k) :
 Calls Tryz.prog 25 #[.pointer (some ⟨gb, 0, none⟩), .string (str k)] w fun e w' => ((e = .returned (.tuple #[zcV, .int .i64 3]) ∧ F k = none ∧ lookT t k = none) ∨ (∃ x v, e = .returned (.tuple #[x.v, .int .i64 0]) ∧ F k = some v ∧ lookT t k = some x ∧ x.key = k ∧ x.ok ∧ x ∈ cellsT t ∧ BlobAt n pg x v (pl x))) ∧ St w0 w' gb mb sb qb c n pg D t ml X tk0 ∧ Below w.heap.size w w' := by
 have h1 := get_ok w0 w gb mb sb qb c n D pg _ t k h.gv h.hs.tb
 rw [if_pos hk] at h1
 refine h1.mono ?_
 rintro e w' ⟨rfl, hg, hr⟩
 refine ⟨?_, ⟨hg, h.hs⟩, hr.bel⟩
 rcases V.look h.hs.tb k with ⟨e1, e2⟩ | ⟨x, v, e1, e2, e3, e4, e5, e6⟩
 · exact .inl ⟨getRes_no e1, e2, e1⟩
 · exact .inr ⟨x, v, getRes_yes e1, e3, e1, e2, e5, e4, e6⟩
end
end Go.Proofs.YtijhamllnnilbaaGreatDoor.Ha
namespace Go.Proofs.YtijhamllnnilbaaGreatDoor.Ha
open Go.RowKit Go.Proofs.YtijhamllnnilbaaGreatDoor.Mem Go.Proofs.YtijhamllnnilbaaGreatDoor.Pg Go.Proofs.YtijhamllnnilbaaGreatDoor.Kp Go.Proofs.YtijhamllnnilbaaGreatDoor.Sp Go.Proofs.YtijhamllnnilbaaGreatDoor.Gr
set_option linter.unusedSimpArgs false
set_option linter.unusedVariables false
def Txts (w : World) (A : Option Addr) (n : Nat) (T : Nat → List UInt8) : Prop :=
 (∀ j, j < n → (str (T j)).size ≤ maxLen) ∧ (0 < n → ∃ b off, A = some ⟨b, off, none⟩ ∧ b < w.heap.size ∧ ∀ j, j < n → w.cell? ⟨b, off + j, none⟩ = some (.string (str (T j))))
end Go.Proofs.YtijhamllnnilbaaGreatDoor.Ha
