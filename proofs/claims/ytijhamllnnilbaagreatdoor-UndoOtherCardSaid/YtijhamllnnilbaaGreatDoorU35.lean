/- Lemmas of the claim, in their order:
- The contract of reach.add.
- An empty table. No program in sight.
- The contract of undo.Steps over a log whose records lie in a row.
- The contract of undo.Next.
- Logs that the laws make themselves: a row of records of which only the kind, the transaction and the ways on are not zero.
- Going over a map of pages; its keys, sorted.
-/
import Derived.Test.YtijhamllnnilbaaGreatDoorU29
import Derived.Test.YtijhamllnnilbaaGreatDoorU32
import Derived.Test.YtijhamllnnilbaaGreatDoorU31
import Derived.Test.YtijhamllnnilbaaGreatDoorU01
import Derived.Test.YtijhamllnnilbaaGreatDoorU03
import Derived.Test.YtijhamllnnilbaaGreatDoorU13
import Derived.Test.YtijhamllnnilbaaGreatDoorShelf3
import Derived.Sort.OwnSortedInts
set_option linter.unusedVariables false
set_option linter.unusedSimpArgs false
namespace Go.Proofs.YtijhamllnnilbaaGreatDoor.Ha
open Go.RowKit Go.Proofs.YtijhamllnnilbaaGreatDoor.Mem Go.Proofs.YtijhamllnnilbaaGreatDoor.Pg Go.Proofs.YtijhamllnnilbaaGreatDoor.Kp Go.Proofs.YtijhamllnnilbaaGreatDoor.Sp Go.Proofs.YtijhamllnnilbaaGreatDoor.Gr
set_option linter.unusedSimpArgs false
set_option linter.unusedVariables false
theorem toI_snoc (V : List Nat) (m : Nat) : (fun j : Int => j == (m : Int) || decide (j ∈ toI V)) = (fun j => decide (j ∈ toI (V ++ [m]))) := by
  funext j
  rw [Bool.eq_iff_iff]
  rw [Bool.or_eq_true, beq_iff_eq, decide_eq_true_eq, decide_eq_true_eq]
  unfold toI
  rw [List.map_append, List.mem_append, List.map_cons, List.map_nil, List.mem_singleton]
  exact Or.comm
theorem Rch.put {w : World} {rb mb : Nat} {V : List Nat} (h : Rch w rb mb V) {m : Nat} (hm : m ∉ V) (h64 : m < 64) (hv : V.length ≤ 64) :
    ∃ w', (Instr.mapUpdate 149 (.map (some mb)) (.int .i64 m) (.bool true)).run Tryz.prog w = .ok () w' ∧ Rch w' rb mb (V ++ [m]) ∧ w.grownBy w' (some mb) := by
  have hno : decide (((m : Nat) : Int) ∈ toI V) = false := by rw [decide_eq_false_iff_not, toI_mem]; exact hm
  obtain ⟨w', h1, h2, h3⟩ := h.map.put (m : Nat) (kl_wf (by omega) (by omega)) (by omega)
  rw [hno, if_neg (by simp), toI_snoc] at h2
  refine ⟨w', h1, ⟨?_, by rw [List.length_append]; exact h2, ?_, h.ne⟩, h3⟩
  · rw [h3.block _ (lt_of_block h.blk) (fun e => by injection e with e; exact h.ne e)]
    exact h.blk
  · rw [List.nodup_append]
    exact ⟨h.nd, by simp, fun a ha b hb e => by rw [List.mem_singleton.1 hb] at e; exact hm (e ▸ ha)⟩
theorem Rch.lookNo {w : World} {rb mb : Nat} {V : List Nat} (h : Rch w rb mb V) {m : Nat} (hm : m ∉ V) (h64 : m < 64) : (Instr.lookup 149 (.map (some mb)) (.int .i64 m) false).run Tryz.prog w = .ok (.bool false) w := by
  have h1 := h.map.look (m : Nat) (kl_wf (by omega) (by omega))
  rwa [show decide (((m : Nat) : Int) ∈ toI V) = false by rw [decide_eq_false_iff_not, toI_mem]; exact hm] at h1
theorem toI_len (l : List Nat) : (toI l).length = l.length := by simp [toI]
theorem nodup_64 {V : List Nat} (h : V.Nodup) (hl : ∀ m, m ∈ V → m < 64) : V.length ≤ 64 := nodup_lt 64 V h hl
set_option maxRecDepth 100000 in
set_option maxHeartbeats 4000000 in
theorem radd_ok (w : World) (rb mb : Nat) (V l : List Nat) (A : Option Addr) (cap : Nat) (hR : Rch w rb mb V) (hI : Ints w A l.length (toI l)) (hn : (V ++ l).Nodup) (h64 : ∀ m, m ∈ V ++ l → m < 64) (hA : ∀ b off, A = some ⟨b, off, none⟩ → b ≠ rb ∧ b ≠ mb) :
    Calls Tryz.prog 65 #[.pointer (some ⟨rb, 0, none⟩), .slice A l.length cap] w fun e w' => e = .returned (.tuple #[]) ∧ Rch w' rb mb (V ++ l) ∧ Keep (fun j => j = rb ∨ j = mb) w w' := by
  have hlen : l.length ≤ 64 := nodup_64 (List.nodup_append.1 hn).2.1 (fun m hm => h64 m (List.mem_append_right _ hm))
  have HI := Lib.hid hI
  have HN := Lib.hid hn
  have H6 := Lib.hid h64
  have HA := Lib.hid hA
  have R0 : Hid (Rch w rb mb (V ++ l.take 0)) := Lib.hid (by rw [List.take_zero, List.append_nil]; exact hR)
  have K0 : Hid (Keep (fun j => j = rb ∨ j = mb) w w) := Lib.hid (Keep.refl _ _)
  clear hI hn h64 hA hR
  go_enter Tryz.func65, Tryz.ntmps65
  go_wp2_with fail
  go_loopw [8] (fun v wr => ∃ j : Nat, v = .int .i64 (j : Nat) ∧ j ≤ l.length ∧ Hid (Rch wr rb mb (V ++ l.take j)) ∧ Hid (Keep (fun j => j = rb ∨ j = mb) w wr)) (fun v _ => l.length - (intOf v).toNat)
  case atStart => exact ⟨0, rfl, Nat.zero_le _, R0, K0⟩
  case round =>
    clear R0 K0
    obtain ⟨j, rfl, hj, R1, K1⟩ := hrel
    by_cases hlt : j < l.length
    · obtain ⟨b, off, rfl, hbl, hcell⟩ := HI.out.2.2 (by omega)
      obtain ⟨hb1, hb2⟩ := HA.out b off rfl
      have hc0 := (K1.out.cell (o := off + j) hbl (by omega)).trans (hcell j hlt)
      rw [toI_getD l j hlt] at hc0
      have hbw : b < wr.heap.size := Nat.lt_of_lt_of_le hbl K1.out.size
      have hsplit : V ++ l.take (j + 1) = (V ++ l.take j) ++ [l[j]] := by rw [List.take_succ_eq_append_getElem hlt, List.append_assoc]
      have hnd : (V ++ l.take (j + 1)).Nodup := List.Nodup.sublist ((List.take_sublist (j + 1) l).append_left V) HN.out
      have hno : l[j] ∉ V ++ l.take j := fun h => by
        rw [hsplit, List.nodup_append] at hnd
        exact hnd.2.2 _ h _ (List.mem_singleton_self _) rfl
      have h6 : l[j] < 64 := H6.out _ (List.mem_append_right _ (List.getElem_mem hlt))
      have hv6 : (V ++ l.take j).length ≤ 64 := nodup_64 R1.out.nd (fun m hm => H6.out m (by
        rcases List.mem_append.1 hm with h | h
        · exact List.mem_append_left _ h
        · exact List.mem_append_right _ (List.mem_of_mem_take h)))
      have hlk := R1.out.lookNo hno h6
      obtain ⟨LJ, hLJ⟩ : ∃ LJ, LJ = l[j] := ⟨_, rfl⟩
      rw [← hLJ] at hc0 hno h6 hlk hsplit
      have cR := blk_cell R1.out.blk
      have fR := blk_free R1.out.blk
      have lR := lt_of_block R1.out.blk
      have R2 : Rch (wr.setCell ⟨rb, 1, none⟩ (.bool false)) rb mb (V ++ l.take j) := by
        have kk : Keep (fun j => j = rb) wr (wr.setCell ⟨rb, 1, none⟩ (.bool false)) := Keep.setCell (S := fun j => j = rb) (Keep.refl _ wr) (.inl rfl) _
        exact ⟨by simpa using heap_setCell_same wr rb 1 _ _ (.bool false) R1.out.blk, R1.out.map.block (kk.block _ R1.out.map.lt (fun e => R1.out.ne e.symm)), R1.out.nd, R1.out.ne⟩
      have K2 := Lib.hid (K1.out.setCell (j := 1) (.inl (show rb = rb ∨ rb = mb from .inl rfl)) (.bool false))
      have cR2 := blk_cell R2.blk
      have lR2 := lt_of_block R2.blk
      obtain ⟨w3, hput, R3, hg3⟩ := R2.put hno h6 hv6
      rw [← hsplit] at R3
      have K3 := Lib.hid (K2.out.trans (Keep.grown (S := fun j => j = rb ∨ j = mb) hg3 (fun k hk => by injection hk with hk; exact .inr hk.symm)))
      have HR3 := Lib.hid R3
      have hjI : (j : Int) < (l.length : Int) := by omega
      have i1 : IntKind.i64.wrap ((j : Int) + 1) = (j : Int) + 1 := IntWalk.i64_in _ (by omega)
      clear hsplit hnd hno hv6 R2 R3 hg3 hLJ hcell K2 R1
      go_wp2_with fail
      refine ⟨⟨j + 1, by simp, by omega, HR3, K3⟩, ?_⟩
      clear i1
      simp [intOf]; omega
    · obtain rfl : j = l.length := by omega
      have RF := R1.out
      rw [List.take_length] at RF
      have HF := Lib.hid RF
      clear RF R1
      go_wp2_with fail
      go_end0
      exact ⟨rfl, HF.out, K1.out⟩
end Go.Proofs.YtijhamllnnilbaaGreatDoor.Ha
namespace Go.Proofs.YtijhamllnnilbaaGreatDoor.Ha
open Go.RowKit Go.Proofs.YtijhamllnnilbaaGreatDoor.Mem Go.Proofs.YtijhamllnnilbaaGreatDoor.Pg Go.Proofs.YtijhamllnnilbaaGreatDoor.Gr Go.Proofs.YtijhamllnnilbaaGreatDoor.Sp
set_option linter.unusedVariables false
set_option linter.unusedSimpArgs false
/-- An empty table's one bucket. -/
def t00 : Tri := .leaf ⟨2, [], []⟩
/-- The pages of an empty table. -/
def pgNew (n : Nat) : Nat → Pag := fun i => if i = 0 then ⟨1, 0, 0, Dr.bodyOf [2]⟩ else if i = 1 then ⟨2, 0, 0, fmtL n⟩ else if i = 2 then ⟨3, 0, 0, zs 240⟩ else Pag.zero
theorem ents00 : entsF 0 t00 = [2] := rfl
theorem hs_new (n : Nat) (h8 : 8 ≤ n) (h64 : n ≤ 64) : Hs n (pgNew n) 0 t00 (fmtL n) [] := by
  have hm := isMap_new n h8 h64
  have hb := bt_newL n (by omega)
  have hl := newL_len n
  refine ⟨⟨Nat.le_refl _, by omega, ?_, fun i q hq => ?_, fun b hb p hp => ?_, ?_, fun m hm => ?_, fun b hb c hc => ?_, fun b hb => ?_⟩, ⟨0, 0, rfl⟩, hm.set 2 1 (by omega) (by omega) (.inl rfl), fun m h2 hmn => ?_, fun m hm => by simp at hm, fun m hm => by simp at hm, List.nodup_nil⟩
  · show _ = dirF 0 t00
    unfold dirF
    rw [ents00]; rfl
  · have hq' : q ∈ [((2 : Nat), (⟨3, 0, 0, bodyF []⟩ : Pag))] := hq
    rw [List.mem_singleton] at hq'
    subst hq'
    rw [bodyF_nil]; rfl
  · rw [List.mem_singleton.1 (show b ∈ [(⟨2, [], []⟩ : Lf)] from hb)] at hp
    rw [List.mem_singleton.1 (show p ∈ [((2 : Nat), ([] : List Cel))] from hp)]
    exact fits_nil
  · show [2].Nodup
    simp
  · rw [List.mem_singleton.1 (show m ∈ [2] from hm)]; omega
  · rw [List.mem_singleton.1 (show b ∈ [(⟨2, [], []⟩ : Lf)] from hb)] at hc
    exact absurd (show c ∈ ([] : List Cel) from hc) (by simp)
  · rw [List.mem_singleton.1 (show b ∈ [(⟨2, [], []⟩ : Lf)] from hb)]
    exact List.nodup_nil
  · unfold fmtL
    rw [bt_set _ _ _ (by rw [hl]; omega), hb m]
    show _ ↔ m ∈ [2] ∨ m ∈ []
    by_cases e : 2 = m
    · subst e; simp
    · rw [if_neg e, if_pos hmn, if_neg (by omega)]
      simp
      omega
end Go.Proofs.YtijhamllnnilbaaGreatDoor.Ha
namespace Go.Proofs.YtijhamllnnilbaaGreatDoor.Undo
open Go.RowKit Go.Proofs.YtijhamllnnilbaaGreatDoor.Mem

/-- A function value is not nil. -/
theorem func_not_nil (f : Fn) (a b : Array Value) (w : World) : (binOp BinOp.eql 273 (.func f a b) .nilFunc).run Tryz.prog w = .ok (.bool false) w := by kernel_rfl
theorem info_int : (Tryz.prog.info? 3).map (fun i => (i.zero, i.size, i.bytes)) = some (some (.int .i64 0), 1, 8) := by kernel_rfl

/-- A log: what p points to holds len records, of these kinds, leading there. -/
def IsLog (w : World) (p : Addr) (len : Nat) (K P N : Nat → Int) : Prop :=
  ∃ A c, w.cell? p = some (.slice A len c) ∧ (0 < len → ∃ b off, A = some ⟨b, off, none⟩ ∧ ∀ i, i < len → RecAt w b off i (K i) (P i) (N i))

theorem IsLog.below {w w' : World} {p : Addr} {len : Nat} {K P N : Nat → Int} (h : IsLog w p len K P N) (hb : Below w.heap.size w w') : IsLog w' p len K P N := by
  obtain ⟨A, c, hc, hr⟩ := h
  refine ⟨A, c, (hb.cell (World.block_lt_of_cell? w _ hc)).trans hc, fun h0 => ?_⟩
  obtain ⟨b, off, hA, hi⟩ := hr h0
  exact ⟨b, off, hA, fun i hl => (hi i hl).below hb⟩

/-- The relation of the loop: what is gathered, and what is still to come. -/
def StepsRel (B : Nat) (w : World) (nx : Int → Option (Int × Bool)) (len : Nat) (m last : Int) (v i : Value) (wr : World) : Prop :=
  ∃ (lsn : Int) (acc : List Int), i = .int .i64 lsn ∧ lsn ≤ last ∧ wr.ownsRow B 3 1 v acc.length (ints acc) ∧ Below B w wr ∧ B ≤ wr.heap.size ∧
    all nx m last = (all nx m lsn).map (acc ++ ·) ∧ (acc = [] ∨ (acc.length : Int) + lsn ≤ len)

def StepsPost (B : Nat) (w : World) (r : Option (List Int)) (e : Ending) (w' : World) : Prop :=
  Below B w w' ∧ B ≤ w'.heap.size ∧ match r with
    | some l => ∃ v, e = .returned (.tuple #[v, .bool true]) ∧ w'.ownsRow B 3 1 v l.length (ints l)
    | none => e = .returned (.tuple #[.slice none 0 0, .bool false])

theorem post_none {B : Nat} {w wr w' : World} {nx : Int → Option (Int × Bool)} {m last lsn : Int} {acc : List Int} (h : all nx m last = (all nx m lsn).map (acc ++ ·)) (hn : all nx m lsn = none)
    (hb : Below B w wr) (hB : B ≤ wr.heap.size) (hb' : Below wr.heap.size wr w') : StepsPost B w (all nx m last) (.returned (.tuple #[.slice none 0 0, .bool false])) w' := by
  refine ⟨below_base hb hB hb', Nat.le_trans hB hb'.size, ?_⟩
  rw [h, hn]
  rfl
theorem post_some {B : Nat} {w wr : World} {nx : Int → Option (Int × Bool)} {m last lsn : Int} {acc : List Int} {v : Value} (h : all nx m last = (all nx m lsn).map (acc ++ ·)) (hn : all nx m lsn = some [])
    (hb : Below B w wr) (hB : B ≤ wr.heap.size) (ho : wr.ownsRow B 3 1 v acc.length (ints acc)) : StepsPost B w (all nx m last) (.returned (.tuple #[v, .bool true])) wr := by
  refine ⟨hb, hB, ?_⟩
  rw [h, hn]
  exact ⟨v, rfl, by simpa using ho⟩
theorem nxt_at {len : Nat} {K P N : Nat → Int} {i : Nat} (hi : i < len) {q : Int} {s y : Bool} (hon : onF (K i) (P i) (N i) = (q, s, y)) :
    nxt len K P N ((i : Int) + 1) = if y = true ∧ q < (i : Int) + 1 then some (q, s) else none := by
  unfold nxt
  have e : ((i : Int) + 1 - 1).toNat = i := by omega
  rw [if_pos (by omega), e, hon]
theorem nxt_out {len : Nat} {K P N : Nat → Int} {i : Nat} (hi : ¬ i < len) : nxt len K P N ((i : Int) + 1) = none := by
  unfold nxt
  rw [if_neg (by omega)]
theorem rel_on {B : Nat} {w wr w' : World} {len : Nat} {K P N : Nat → Int} {m last : Int} {i : Nat} {q : Int} {acc : List Int} {v : Value} (hi : i < len)
    (hm : m < (i : Int) + 1) (hle : (i : Int) + 1 ≤ last) (hq : q < (i : Int) + 1) (hon : onF (K i) (P i) (N i) = (q, false, true)) (ho : wr.ownsRow B 3 1 v acc.length (ints acc)) (hb : Below B w wr) (hB : B ≤ wr.heap.size)
    (h : all (nxt len K P N) m last = (all (nxt len K P N) m ((i : Int) + 1)).map (acc ++ ·)) (hc : acc = [] ∨ (acc.length : Int) + ((i : Int) + 1) ≤ len) (hb' : Below wr.heap.size wr w') :
    StepsRel B w (nxt len K P N) len m last v (.int .i64 q) w' := by
  refine ⟨q, acc, rfl, by omega, own_below ho hb', below_base hb hB hb', Nat.le_trans hB hb'.size, ?_, ?_⟩
  · rw [h, all_step (nxt_falls len K P N) hm (by rw [nxt_at hi hon, if_pos ⟨rfl, hq⟩])]
    simp
  · rcases hc with hc | hc
    · exact .inl hc
    · right; omega
theorem rel_step {B : Nat} {w wr w' : World} {len : Nat} {K P N : Nat → Int} {m last : Int} {i : Nat} {q : Int} {acc : List Int} {v v' : Value} (hi : i < len)
    (hm : m < (i : Int) + 1) (hle : (i : Int) + 1 ≤ last) (hq : q < (i : Int) + 1) (hon : onF (K i) (P i) (N i) = (q, true, true)) (ho : wr.ownsRow B 3 1 v acc.length (ints acc)) (hb : Below B w wr) (hB : B ≤ wr.heap.size)
    (h : all (nxt len K P N) m last = (all (nxt len K P N) m ((i : Int) + 1)).map (acc ++ ·)) (hc : acc = [] ∨ (acc.length : Int) + ((i : Int) + 1) ≤ len)
    {a : World} (hb' : Below wr.heap.size wr a) (hg : a.grownBy w' v.ownBlock) (ho' : w'.ownsRow B 3 1 v' (acc.length + 1) (ints acc ++ [.int .i64 ((i : Int) + 1)])) :
    StepsRel B w (nxt len K P N) len m last v' (.int .i64 q) w' := by
  refine ⟨q, acc ++ [(i : Int) + 1], rfl, by omega, by simpa [ints] using ho', below_grown (below_base hb hB hb') (Nat.le_trans hB hb'.size) ho hg, Nat.le_trans (Nat.le_trans hB hb'.size) hg.size, ?_, ?_⟩
  · rw [h, all_step (nxt_falls len K P N) hm (by rw [nxt_at hi hon, if_pos ⟨rfl, hq⟩])]
    simp [Function.comp_def]
  · right
    simp
    rcases hc with rfl | hc
    · simp; omega
    · omega

set_option maxRecDepth 100000 in
set_option maxHeartbeats 4000000 in
theorem steps_any (p : Addr) (len : Nat) (K P N : Nat → Int) (last down : Int) (w : World) (hlog : IsLog w p len K P N) (hl : len ≤ 1000000) :
    Calls Tryz.prog 124 #[.func (.func 125) #[.pointer (some p)] #[], .int .i64 last, .int .i64 down] w (StepsPost w.heap.size w (all (nxt len K P N) (max down 0) last)) := by
  have hnf := func_not_nil
  obtain ⟨i0, hi, hz0, hz1, hz2⟩ := info_parts info_int
  go_enter Tryz.func124, Tryz.ntmps124
  go_wp2
  go_loopw [8, 9] (fun v i wr => StepsRel w.heap.size w (nxt len K P N) len (max down 0) last v i wr) (fun _ i _ => (intOf i).toNat)
  case atStart => exact ⟨last, [], rfl, Int.le_refl _, World.ownsRow_nil _ _ _ _, Below.refl _ _, Nat.le_refl _, by simp, .inl rfl⟩
  case round =>
    obtain ⟨lsn, acc, rfl, hle, hown, hbel, hsz, hall, hcnt⟩ := hrel
    have Hall := Lib.hid hall
    have Hcnt := Lib.hid hcnt
    clear hall hcnt
    have hlg := hlog.below hbel
    by_cases hm : (if down < 0 then 0 else down) < lsn
    · have hm' : max down 0 < lsn := by split at hm <;> omega
      have h0 : 0 < lsn := by omega
      obtain ⟨i, rfl⟩ : ∃ i : Nat, lsn = (i : Int) + 1 := ⟨(lsn - 1).toNat, by omega⟩
      by_cases hin : i < len
      · obtain ⟨A, c, hc, hr⟩ := hlg
        obtain ⟨b, off, rfl, hrec⟩ := hr (by omega)
        clear hr
        obtain ⟨q, s, y, hon⟩ : ∃ q s y, onF (K i) (P i) (N i) = (q, s, y) := ⟨_, _, _, rfl⟩
        have hon1 := fun tx c4 c5 c6 c7 c8 c9 c10 c11 c12 c13 (w : World) => on_any (K i) tx (P i) (N i) c4 c5 c6 c7 c8 c9 c10 c11 c12 c13 w
        simp only [hon] at hon1
        have Hon := Lib.hid hon
        clear hon
        cases y
        · go_wp2_with (first | (go_at_call 125; refine (at_in p b off len c i wr (K i) (P i) (N i) hc hin hl (hrec i hin)).mono ?_; rintro e w1 ⟨v, ⟨tx, s4, b5, s6, s7, x8, x9, a10, n10, m10, a11, n11, m11, a12, n12, m12, a13, n13, m13, rfl⟩, rfl, hb1⟩) | (go_at_call 182; refine (hon1 _ _ _ _ _ _ _ _ _ _ _ _).mono ?_; rintro e w2 ⟨rfl, hb2⟩))
          all_goals go_ret2
          all_goals exact post_none Hall.out (all_bad hm' (by rw [nxt_at hin Hon.out, if_neg (by simp)])) hbel hsz (below_tr (below_al hb1 _) hb2)
        · by_cases hq : q < (i : Int) + 1
          · cases s
            · go_wp2_with (first | (go_at_call 125; refine (at_in p b off len c i wr (K i) (P i) (N i) hc hin hl (hrec i hin)).mono ?_; rintro e w1 ⟨v, ⟨tx, s4, b5, s6, s7, x8, x9, a10, n10, m10, a11, n11, m11, a12, n12, m12, a13, n13, m13, rfl⟩, rfl, hb1⟩) | (go_at_call 182; refine (hon1 _ _ _ _ _ _ _ _ _ _ _ _).mono ?_; rintro e w2 ⟨rfl, hb2⟩))
              all_goals go_roundw
              all_goals first | exact rel_on hin hm' hle hq Hon.out hown hbel hsz Hall.out Hcnt.out (below_tr (below_al hb1 _) hb2) | (simp [intOf]; omega)
            · have hal : acc.length ≤ len := by rcases Hcnt.out with h | h; (subst h; simp); omega
              go_wp2_with (first
                | (go_at_call 125; refine (at_in p b off len c i wr (K i) (P i) (N i) hc hin hl (hrec i hin)).mono ?_; rintro e w1 ⟨v, ⟨tx, s4, b5, s6, s7, x8, x9, a10, n10, m10, a11, n11, m11, a12, n12, m12, a13, n13, m13, rfl⟩, rfl, hb1⟩)
                | (go_at_call 182; refine (hon1 _ _ _ _ _ _ _ _ _ _ _ _).mono ?_; rintro e w2 ⟨rfl, hb2⟩)
                | (at_builtin; refine wpList_append_own _ rfl (.tmp 46) (.tmp 48) _ rfl w.heap.size 3 i0 (.int .i64 0) 1 8 Tryz.underlying45 hi hz0 hz1 hz2 rfl (by decide) _ acc.length (ints acc) rfl ((own_below hown (below_tr (below_al hb1 _) hb2)).alloc _) ⟨w2.heap.size, 0, none⟩ 1 1 [.int .i64 ((i : Int) + 1)] rfl rfl (cells_one _ _ _) (by intro u hu; simp at hu; subst hu; rfl) (by unfold maxLen; omega) (by omega) (by have := hb2.size; have := hb1.size; simp at *; omega) ?_; intro v' w3 hown' hgrow _))
              all_goals go_roundw
              all_goals first | exact rel_step hin hm' hle hq Hon.out hown hbel hsz Hall.out Hcnt.out (below_al (below_tr (below_al hb1 _) hb2) _) hgrow hown' | (simp [intOf]; omega)
          · go_wp2_with (first | (go_at_call 125; refine (at_in p b off len c i wr (K i) (P i) (N i) hc hin hl (hrec i hin)).mono ?_; rintro e w1 ⟨v, ⟨tx, s4, b5, s6, s7, x8, x9, a10, n10, m10, a11, n11, m11, a12, n12, m12, a13, n13, m13, rfl⟩, rfl, hb1⟩) | (go_at_call 182; refine (hon1 _ _ _ _ _ _ _ _ _ _ _ _).mono ?_; rintro e w2 ⟨rfl, hb2⟩))
            all_goals go_ret2
            all_goals exact post_none Hall.out (all_bad hm' (by rw [nxt_at hin Hon.out, if_neg (by omega)])) hbel hsz (below_tr (below_al hb1 _) hb2)
      · obtain ⟨A, c, hc, hr⟩ := hlg
        clear hr
        go_wp2_with (first | (go_at_call 125; refine (at_out p A len c ((i : Int) + 1) wr hc (by omega)).mono ?_; rintro e w1 ⟨v, ⟨tx, s4, b5, s6, s7, x8, x9, a10, n10, m10, a11, n11, m11, a12, n12, m12, a13, n13, m13, rfl⟩, rfl, hb1⟩) | (go_at_call 182; refine (on_any 0 _ 0 0 _ _ _ _ _ _ _ _ _ _ _).mono ?_; rintro e w2 ⟨rfl, hb2⟩))
        all_goals go_ret2
        all_goals exact post_none Hall.out (all_bad hm' (nxt_out hin)) hbel hsz (below_tr (below_al hb1 _) hb2)
    · go_wp2_with fail
      all_goals go_ret2
      all_goals exact post_some Hall.out (all_stop _ _ _ (by split at hm <;> omega)) hbel hsz hown
end Go.Proofs.YtijhamllnnilbaaGreatDoor.Undo
namespace Go.Proofs.YtijhamllnnilbaaGreatDoor.Undo
open Go.RowKit Go.Proofs.YtijhamllnnilbaaGreatDoor.Mem

/-- The first of what is to be undone; 0. -/
def headOf : Option (List Int) → Int
  | some (x :: _) => x
  | _ => 0

set_option maxRecDepth 100000 in
set_option maxHeartbeats 1000000 in
theorem next_any (p : Addr) (len : Nat) (K P N : Nat → Int) (last : Int) (w : World) (hlog : IsLog w p len K P N) (hl : len ≤ 1000000) :
    Calls Tryz.prog 126 #[.func (.func 125) #[.pointer (some p)] #[], .int .i64 last] w fun e w' =>
      e = .returned (.tuple #[.int .i64 (headOf (all (nxt len K P N) 0 last)), .bool (all (nxt len K P N) 0 last).isSome]) ∧ Below w.heap.size w w' := by
  have hs := steps_any p len K P N last 0 w hlog hl
  rw [show max (0 : Int) 0 = 0 from rfl] at hs
  cases hr : all (nxt len K P N) 0 last with
  | none =>
    rw [hr] at hs
    go_enter Tryz.func126, Tryz.ntmps126
    go_wp2_with (go_at_call 124; refine hs.mono ?_; rintro e w1 ⟨hb, _, rfl⟩)
    go_ret2
    exact ⟨rfl, hb⟩
  | some l =>
    rw [hr] at hs
    cases l with
    | nil =>
      go_enter Tryz.func126, Tryz.ntmps126
      go_wp2_with (go_at_call 124; refine hs.mono ?_; rintro e w1 ⟨hb, _, v, rfl, hown⟩; obtain ⟨A, c, rfl, hi⟩ := ints_of_own hown)
      go_ret2
      exact ⟨rfl, hb⟩
    | cons x l =>
      go_enter Tryz.func126, Tryz.ntmps126
      go_wp2_with (go_at_call 124; refine hs.mono ?_; rintro e w1 ⟨hb, _, v, rfl, hown⟩; obtain ⟨A, c, rfl, hi⟩ := ints_of_own hown; obtain ⟨b, off, rfl, _, hc⟩ := hi.2.2 (by simp); have hc0 := hc 0 (by simp); simp at hc0)
      go_ret2
      exact ⟨rfl, hb⟩
end Go.Proofs.YtijhamllnnilbaaGreatDoor.Undo
namespace Go.Proofs.YtijhamllnnilbaaGreatDoor.Undo
open Go.RowKit Go.Proofs.YtijhamllnnilbaaGreatDoor.Mem

abbrev Quad := Int × Int × Int × Int
/-- A record's cells. -/
def rec4 (r : Quad) : List Value :=
  [.int .i64 r.1, .int .i64 r.2.1, .int .i64 r.2.2.1, .int .i64 r.2.2.2, .string ⟨#[]⟩, .bool false, .string ⟨#[]⟩, .string ⟨#[]⟩, .int .i64 0, .int .i64 0, .slice none 0 0, .slice none 0 0, .slice none 0 0, .slice none 0 0]
def flat (L : List Quad) : List Value := L.flatMap rec4
theorem rec4_length (r : Quad) : (rec4 r).length = 14 := rfl
theorem flat_get : ∀ (L : List Quad) (i j : Nat), i < L.length → j < 14 → (flat L)[i * 14 + j]? = (rec4 (L.getD i (0, 0, 0, 0)))[j]? := by
  intro L
  induction L with
  | nil => intro i j hi _; simp at hi
  | cons r L ih =>
    intro i j hi hj
    unfold flat
    rw [List.flatMap_cons]
    cases i with
    | zero => rw [List.getElem?_append_left (by rw [rec4_length]; omega)]; simp
    | succ i =>
      rw [List.getElem?_append_right (by rw [rec4_length]; omega), rec4_length]
      have := ih i j (by simpa using hi) hj
      unfold flat at this
      rw [show (i + 1) * 14 + j - 14 = i * 14 + j from by omega, this]
      simp
def kf (L : List Quad) (i : Nat) : Int := (L.getD i (0, 0, 0, 0)).1
def pf (L : List Quad) (i : Nat) : Int := (L.getD i (0, 0, 0, 0)).2.2.1
def nf (L : List Quad) (i : Nat) : Int := (L.getD i (0, 0, 0, 0)).2.2.2

theorem isLog_of_own {w : World} {p : Addr} {base : Nat} {v : Value} {L : List Quad} (hp : w.cell? p = some v) (ho : w.ownsRow base 103 14 v L.length (flat L)) : IsLog w p L.length (kf L) (pf L) (nf L) := by
  obtain ⟨A, c, rfl⟩ := own_slice ho
  refine ⟨A, c, hp, fun h0 => ?_⟩
  obtain ⟨g, cap, hv, _, hlt⟩ := ho.form h0
  injection hv with hA _ _
  subst hA
  refine ⟨g, 0, rfl, fun i hi => ?_⟩
  have hc : ∀ j u, j < 14 → (rec4 (L.getD i (0, 0, 0, 0)))[j]? = some u → w.cell? ⟨g, 0 + i * 14 + j, none⟩ = some u := by
    intro j u hj hu
    have h1 := ho.cells (g := g) rfl (i * 14 + j) u (by rw [flat_get L i j hi hj]; exact hu)
    have ha : (⟨g, 0, none⟩ : Addr).add (i * 14 + j) = ⟨g, 0 + i * 14 + j, none⟩ := by
      unfold Addr.add
      split
      · rename_i h; rw [Nat.add_assoc, h]
      · simp
    rwa [ha] at h1
  refine ⟨_, _, _, _, _, _, _, _, _, _, _, _, _, _, _, _, _, _, _, hc 0 _ (by omega) rfl, hc 1 _ (by omega) rfl, hc 2 _ (by omega) rfl, hc 3 _ (by omega) rfl, hc 4 _ (by omega) rfl, hc 5 _ (by omega) rfl, hc 6 _ (by omega) rfl, hc 7 _ (by omega) rfl, hc 8 _ (by omega) rfl, hc 9 _ (by omega) rfl, hc 10 _ (by omega) rfl, hc 11 _ (by omega) rfl, hc 12 _ (by omega) rfl, hc 13 _ (by omega) rfl⟩

def aliveL : List Quad := [(1, 0, 0, 0), (1, 0, 1, 0), (2, 0, 2, 1)]
theorem alive_log (w : World) : IsLog ((w.alloc (.cells (flat aliveL).toArray 103)).alloc (.cells #[.slice (some ⟨w.heap.size, 0, none⟩) 3 3] 197)) ⟨w.heap.size + 1, 0, none⟩ 3 (kf aliveL) (pf aliveL) (nf aliveL) := by
  refine isLog_of_own (L := aliveL) (base := 0) (v := .slice (some ⟨w.heap.size, 0, none⟩) 3 3) ?_ ?_
  · rw [World.cell?_alloc_at _ _ _ _ (by simp)]; rfl
  · refine ⟨rfl, .inr ⟨w.heap.size, 3, (flat aliveL).toArray, rfl, Nat.zero_le _, ?_, by decide, by decide, rfl, rfl⟩⟩
    rw [Below.heap_alloc _ _ _ (by simp)]
    exact heap_alloc_new w _
theorem alive_steps : all (nxt 3 (kf aliveL) (pf aliveL) (nf aliveL)) (max 0 0) 3 = some [1] := by decide
theorem alive_next : all (nxt 3 (kf aliveL) (pf aliveL) (nf aliveL)) 0 2 = some [2, 1] := by decide

set_option maxRecDepth 100000 in
set_option maxHeartbeats 1000000 in
theorem alive_any (w : World) : Calls Tryz.prog 43 #[] w fun e w' => e = .returned (.bool true) ∧ Below w.heap.size w w' := by
  have hmf : ∀ (fn : Fn) (first cap : Array Value) (w : World), (Instr.makeFunc fn first cap).run Tryz.prog w = .ok (.func fn first cap) w := fun _ _ _ _ => rfl
  have hl := alive_log w
  have hs := steps_any _ 3 _ _ _ 3 0 _ hl (by omega)
  rw [alive_steps] at hs
  have hb0 : Below w.heap.size w ((w.alloc (.cells (flat aliveL).toArray 103)).alloc (.cells #[.slice (some ⟨w.heap.size, 0, none⟩) 3 3] 197)) := below_al (below_al (Below.refl _ _) _) _
  go_enter Tryz.func43, Tryz.ntmps43
  go_wp2_with fail
  refine hs.mono ?_
  rintro e w1 ⟨hb, hB, v, rfl, hown⟩
  have hl1 := hl.below hb
  have hb1 := below_tr hb0 hb
  obtain ⟨A, c, rfl, hi⟩ := ints_of_own hown
  clear hs hl hb0 hb hB hown
  go_wp2_with fail
  refine (next_any _ 3 _ _ _ 2 _ hl1 (by omega)).mono ?_
  rw [alive_next, show headOf (some [2, 1]) = 2 from rfl]
  rintro e w2 ⟨rfl, hb2⟩
  have hi2 := (hi.below hb2).below (below_al (Below.refl _ _) (.cells #[.int .i64 1] 3))
  have hj : Ints (w2.alloc (.cells #[.int .i64 1] 3)) (some ⟨w2.heap.size, 0, none⟩) 1 [1] := by
    refine ⟨rfl, by omega, fun _ => ⟨_, 0, rfl, by simp, fun j hj => ?_⟩⟩
    obtain rfl : j = 0 := by omega
    rw [World.cell?_alloc_at _ _ _ _ rfl]; rfl
  clear hl1
  go_wp2_with (go_at_call 33; refine (sameInts_any _ _ _ _ _ _ _ _ _ hi2 hj).mono ?_; rintro e w3 ⟨rfl, hb3⟩)
  go_ret
  exact ⟨rfl, below_tr (below_al (below_tr hb1 hb2) _) hb3⟩
end Go.Proofs.YtijhamllnnilbaaGreatDoor.Undo
namespace Go.Proofs.YtijhamllnnilbaaGreatDoor.Gr
open Go.RowKit Go.Proofs.YtijhamllnnilbaaGreatDoor.Mem Go.Proofs.YtijhamllnnilbaaGreatDoor.Pg Go.Proofs.YtijhamllnnilbaaGreatDoor.Kp

/-- Going over the map in block b, by block r: these keys are still to come. -/
def Iter (w : World) (b r : Nat) (todo : List Int) : Prop :=
  ∃ (n : Nat) (D : DataW Unit) (left : Lit → Bool) (cnt : Nat), w.ranges Tryz.prog 3 (plainElem Tryz.prog 9) b r n D left cnt ∧ todo.Nodup ∧ (∀ i, left (kl i) = true ↔ i ∈ todo)
theorem Iter.kept {w w' : World} {b r : Nat} {todo : List Int} {row : Option Nat} (h : Iter w b r todo) (hg : w.grownBy w' row) (hb : some b ≠ row) (hr : some r ≠ row) : Iter w' b r todo := by
  obtain ⟨n, D, left, cnt, h1, h2⟩ := h
  exact ⟨n, D, left, cnt, h1.kept hg hb hr, h2⟩
theorem Iter.left {w w' : World} {b r : Nat} {todo : List Int} {row : Option Nat} (h : Iter w b r todo) (hg : w.grownBy w' row) (hb : some b ≠ row) (hr : some r ≠ row) : w'.rangeLeft b r = w.rangeLeft b r := by
  obtain ⟨n, D, left, cnt, h1, h2⟩ := h
  rw [h1.left_eq, (h1.kept hg hb hr).left_eq]
theorem Iter.start {w : World} {b : Nat} {F : Int → Option (List UInt8)} (h : MapIs w b F) :
    ∃ w' ks, (Instr.range 117 (.map (some b))).run Tryz.prog w = .ok (.pointer (some ⟨w.heap.size, 0, none⟩)) w' ∧ Iter w' b w.heap.size ks ∧ w.grownBy w' none ∧ w'.heap.size = w.heap.size + 1 ∧ ks.Nodup ∧ (∀ i, i ∈ ks ↔ F i ≠ none) := by
  obtain ⟨D, ks, ho, hn, hsz, hks, hhas, hat⟩ := h.ex
  obtain ⟨w', hrun, hr, hg, hs⟩ := ho.range ikeyed Tryz.underlying117
  refine ⟨w', ks, hrun, ⟨_, D, _, _, hr, hn, fun i => ?_⟩, hg, hs, hn, hks⟩
  rw [hhas i, hks i]
  rcases F i with _ | l
  · simp
  · simp
theorem kl_same (i j : Int) : (kl j).sameKey (kl i) = decide (j = i) := by
  by_cases h : j = i
  · subst h
    rw [decide_eq_true rfl]
    exact WideAt.sameKey_self (a := kl j) trivial
  · rw [decide_eq_false h]
    exact Maps.sameKey_ne (kl_ne h)
theorem Iter.next {w : World} {b r : Nat} {todo : List Int} (h : Iter w b r todo) (ty : TypeId) :
    (todo = [] ∧ (Instr.next (.pointer (some ⟨r, 0, none⟩)) false ty).run Tryz.prog w = .ok (.tuple #[.bool false]) w) ∨
    ∃ (i : Int) (s : ByteArray) (w' : World), i ∈ todo ∧ (Instr.next (.pointer (some ⟨r, 0, none⟩)) false ty).run Tryz.prog w = .ok (.tuple #[.bool true, .int .i64 i, .string s]) w' ∧ (Instr.entry (.pointer (some ⟨r, 0, none⟩))).run Tryz.prog w' = .ok (.tuple #[.int .i64 i, .string s]) w' ∧
      Iter w' b r (todo.erase i) ∧ w'.rangeLeft b r < w.rangeLeft b r ∧ w.grownBy w' (some r) ∧ w'.heap.size = w.heap.size := by
  obtain ⟨n, D, left, cnt, h1, hn, hl⟩ := h
  rcases h1.next ikeyed ty with ⟨h0, hf, hrun⟩ | ⟨key, v, kl', y, w', cnt', hkey, hlk, hv, hat, hrun, hrg, hlt, hgr, hsz, hen⟩
  · refine .inl ⟨?_, hrun⟩
    rcases todo with _ | ⟨i, t⟩
    · rfl
    · have := (hl i).2 (by simp)
      rw [hf] at this
      cases this
  · obtain ⟨i, rfl, rfl, hw⟩ := Maps.keyOf_int_inv Tryz.underlying3 hkey
    obtain ⟨s, rfl, _, _⟩ := plainElem_string_inv Tryz.underlying9 hv
    refine .inr ⟨i, s, w', (hl i).1 hlk, hrun, hen, ⟨n, D, _, cnt', hrg, hn.erase _, fun j => ?_⟩, ?_, hgr, hsz⟩
    · rw [hn.mem_erase_iff, kl_same, ← hl j]
      by_cases e : j = i
      · simp [e]
      · simp [e]
    · rw [hrg.left_eq, h1.left_eq]
      exact hlt
/-- slices.Sort over a slice of the call's own. -/
theorem sort_own (w : World) (base n : Nat) (v : Value) (xs : List Int) (h : w.ownsRow base 3 1 v n (ints xs)) (hn : n ≤ 1000000) :
    Calls Tryz.prog 127 #[v] w fun e w' => e = .returned (.tuple #[]) ∧ w'.ownsRow base 3 1 v n (ints (xs.mergeSort fun x y => decide (x ≤ y))) ∧ w.grownBy w' v.ownBlock := by
  have hx : xs.length = n := by have := h.1; simpa [ints] using this
  rcases h.2 with ⟨rfl, rfl⟩ | ⟨g, cap, cur, rfl, hb, hblk, h1, h2, h3, h4⟩
  · have := Tryz.slices_Sort_int_none none 0 w
    refine this.mono ?_
    rintro e w' ⟨rfl, rfl⟩
    obtain rfl : xs = [] := List.eq_nil_of_length_eq_zero hx
    exact ⟨rfl, by simpa [ints] using h, ⟨rfl, rfl, rfl, Nat.le_refl _, fun _ _ _ => rfl⟩⟩
  · subst hx
    have hH := holds_of_blockI (ss := xs) hblk (by simpa [ints] using h4)
    have hs := Tryz.slices_Sort_int g 0 cap xs w hH (lt_of_block hblk) (by omega)
    refine hs.mono ?_
    rintro e w' ⟨rfl, k, os, rfl⟩
    refine ⟨rfl, ?_, grownBy_sortedI _⟩
    exact ownsRow_sortedI (ss := xs) (by simp) hb hblk h1 h2 h3
end Go.Proofs.YtijhamllnnilbaaGreatDoor.Gr
