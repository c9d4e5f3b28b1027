/- Lemmas of the claim, in their order:
- The contract of reach.add.
- An empty table. No program in sight.
- How many pages are free. No program in sight.
- Two buckets become one, a directory is halved. No program in sight.
-/
import Derived.Test.YtijhamllnnilbaaGreatDoorQ31
import Derived.Test.YtijhamllnnilbaaGreatDoorQ32
import Derived.Test.YtijhamllnnilbaaGreatDoorQ34
set_option linter.unusedVariables false
set_option linter.unusedSimpArgs false
namespace Go.Proofs.YtijhamllnnilbaaGreatDoor.Ha
open Go.RowKit Go.Proofs.YtijhamllnnilbaaGreatDoor.Mem Go.Proofs.YtijhamllnnilbaaGreatDoor.Pg Go.Proofs.YtijhamllnnilbaaGreatDoor.Kp Go.Proofs.YtijhamllnnilbaaGreatDoor.Sp Go.Proofs.YtijhamllnnilbaaGreatDoor.Gr
set_option linter.unusedSimpArgs false
set_option linter.unusedVariables false
theorem toI_snoc (V : List Nat) (m : Nat) : (fun j : Int => j == (m : Int) || decide (j ∈ toI V)) = (fun j => decide (j ∈ toI (V ++ [m]))) := by
 funext j
 rw [Bool.eq_iff_iff]
 rw [Bool.or_eq_true, beq_iff_eq, decide_eq_true_eq, decide_eq_true_eq]
 unfold toI
 rw [List.map_append, List.mem_append, List.map_cons, List.map_nil, List.mem_singleton]
 exact Or.comm
theorem Rch.put {w : World} {rb mb : Nat} {V : List Nat} (h : Rch w rb mb V) {m : Nat} (hm : m ∉ V) (h64 : m < 64) (hv : V.length ≤ 64) :
 ∃ w', (Instr.mapUpdate 149 (.map (some mb)) (.int .i64 m) (.bool true)).run Tryz.prog w = .ok () w' ∧ Rch w' rb mb (V ++ [m]) ∧ w.grownBy w' (some mb) := by
 have hno : decide (((m : Nat) : Int) ∈ toI V) = false := by rw [decide_eq_false_iff_not, toI_mem]; exact hm
 obtain ⟨w', h1, h2, h3⟩ := h.map.put (m : Nat) (kl_wf (by omega) (by omega)) (by omega)
 rw [hno, if_neg (by simp), toI_snoc] at h2
 refine ⟨w', h1, ⟨?_, by rw [List.length_append]; exact h2, ?_, h.ne⟩, h3⟩
 · rw [h3.block _ (lt_of_block h.blk) (fun e => by injection e with e; exact h.ne e)]
   exact h.blk
 · rw [List.nodup_append]
   exact ⟨h.nd, by simp, fun a ha b hb e => by rw [List.mem_singleton.1 hb] at e; exact hm (e ▸ ha)⟩
theorem Rch.lookNo {w : World} {rb mb : Nat} {V : List Nat} (h : Rch w rb mb V) {m : Nat} (hm : m ∉ V) (h64 : m < 64) : (Instr.lookup 149 (.map (some mb)) (.int .i64 m) false).run Tryz.prog w = .ok (.bool false) w := by
 have h1 := h.map.look (m : Nat) (kl_wf (by omega) (by omega))
 rwa [show decide (((m : Nat) : Int) ∈ toI V) = false by rw [decide_eq_false_iff_not, toI_mem]; exact hm] at h1
theorem toI_len (l : List Nat) : (toI l).length = l.length := by simp [toI]
theorem nodup_64 {V : List Nat} (h : V.Nodup) (hl : ∀ m, m ∈ V → m < 64) : V.length ≤ 64 := nodup_lt 64 V h hl
set_option maxRecDepth 100000 in
set_option maxHeartbeats 4000000 in
theorem radd_ok (w : World) (rb mb : Nat) (V l : List Nat) (A : Option Addr) (cap : Nat) (hR : Rch w rb mb V) (hI : Ints w A l.length (toI l)) (hn : (V ++ l).Nodup) (h64 : ∀ m, m ∈ V ++ l → m < 64) (hA : ∀ b off, A = some ⟨b, off, none⟩ → b ≠ rb ∧ b ≠ mb) :
 Calls Tryz.prog 65 #[.pointer (some ⟨rb, 0, none⟩), .slice A l.length cap] w fun e w' => e = .returned (.tuple #[]) ∧ Rch w' rb mb (V ++ l) ∧ Keep (fun j => j = rb ∨ j = mb) w w' := by
 have hlen : l.length ≤ 64 := nodup_64 (List.nodup_append.1 hn).2.1 (fun m hm => h64 m (List.mem_append_right _ hm))
 have HI := Lib.hid hI
 have HN := Lib.hid hn
 have H6 := Lib.hid h64
 have HA := Lib.hid hA
 have R0 : Hid (Rch w rb mb (V ++ l.take 0)) := Lib.hid (by rw [List.take_zero, List.append_nil]; exact hR)
 have K0 : Hid (Keep (fun j => j = rb ∨ j = mb) w w) := Lib.hid (Keep.refl _ _)
 clear hI hn h64 hA hR
 go_enter Tryz.func65, Tryz.ntmps65
 go_wp2_with fail
 go_loopw [8] (fun v wr => ∃ j : Nat, v = .int .i64 (j : Nat) ∧ j ≤ l.length ∧ Hid (Rch wr rb mb (V ++ l.take j)) ∧ Hid (Keep (fun j => j = rb ∨ j = mb) w wr)) (fun v _ => l.length - (intOf v).toNat)
 case atStart => exact ⟨0, rfl, Nat.zero_le _, R0, K0⟩
 case round =>
  clear R0 K0
  obtain ⟨j, rfl, hj, R1, K1⟩ := hrel
  by_cases hlt : j < l.length
  · obtain ⟨b, off, rfl, hbl, hcell⟩ := HI.out.2.2 (by omega)
    obtain ⟨hb1, hb2⟩ := HA.out b off rfl
    have hc0 := (K1.out.cell (o := off + j) hbl (by omega)).trans (hcell j hlt)
    rw [toI_getD l j hlt] at hc0
    have hbw : b < wr.heap.size := Nat.lt_of_lt_of_le hbl K1.out.size
    have hsplit : V ++ l.take (j + 1) = (V ++ l.take j) ++ [l[j]] := by rw [List.take_succ_eq_append_getElem hlt, List.append_assoc]
    have hnd : (V ++ l.take (j + 1)).Nodup := List.Nodup.sublist ((List.take_sublist (j + 1) l).append_left V) HN.out
    have hno : l[j] ∉ V ++ l.take j := fun h => by
     rw [hsplit, List.nodup_append] at hnd
     exact hnd.2.2 _ h _ (List.mem_singleton_self _) rfl
    have h6 : l[j] < 64 := H6.out _ (List.mem_append_right _ (List.getElem_mem hlt))
    have hv6 : (V ++ l.take j).length ≤ 64 := nodup_64 R1.out.nd (fun m hm => H6.out m (by
     rcases List.mem_append.1 hm with h | h
     · exact List.mem_append_left _ h
     · exact List.mem_append_right _ (List.mem_of_mem_take h)))
    have hlk := R1.out.lookNo hno h6
    obtain ⟨LJ, hLJ⟩ : ∃ LJ, LJ = l[j] := ⟨_, rfl⟩
    rw [← hLJ] at hc0 hno h6 hlk hsplit
    have cR := blk_cell R1.out.blk
    have fR := blk_free R1.out.blk
    have lR := lt_of_block R1.out.blk
    have R2 : Rch (wr.setCell ⟨rb, 1, none⟩ (.bool false)) rb mb (V ++ l.take j) := by
     have kk : Keep (fun j => j = rb) wr (wr.setCell ⟨rb, 1, none⟩ (.bool false)) := Keep.setCell (S := fun j => j = rb) (Keep.refl _ wr) (.inl rfl) _
     exact ⟨by simpa using heap_setCell_same wr rb 1 _ _ (.bool false) R1.out.blk, R1.out.map.block (kk.block _ R1.out.map.lt (fun e => R1.out.ne e.symm)), R1.out.nd, R1.out.ne⟩
    have K2 := Lib.hid (K1.out.setCell (j := 1) (.inl (show rb = rb ∨ rb = mb from .inl rfl)) (.bool false))
    have cR2 := blk_cell R2.blk
    have lR2 := lt_of_block R2.blk
    obtain ⟨w3, hput, R3, hg3⟩ := R2.put hno h6 hv6
    rw [← hsplit] at R3
    have K3 := Lib.hid (K2.out.trans (Keep.grown (S := fun j => j = rb ∨ j = mb) hg3 (fun k hk => by injection hk with hk; exact .inr hk.symm)))
    have HR3 := Lib.hid R3
    have hjI : (j : Int) < (l.length : Int) := by omega
    have i1 : IntKind.i64.wrap ((j : Int) + 1) = (j : Int) + 1 := IntWalk.i64_in _ (by omega)
    clear hsplit hnd hno hv6 R2 R3 hg3 hLJ hcell K2 R1
    go_wp2_with fail
    refine ⟨⟨j + 1, by simp, by omega, HR3, K3⟩, ?_⟩
    clear i1
    simp [intOf]; omega
  · obtain rfl : j = l.length := by omega
    have RF := R1.out
    rw [List.take_length] at RF
    have HF := Lib.hid RF
    clear RF R1
    go_wp2_with fail
    go_end0
    exact ⟨rfl, HF.out, K1.out⟩
end Go.Proofs.YtijhamllnnilbaaGreatDoor.Ha
namespace Go.Proofs.YtijhamllnnilbaaGreatDoor.Ha
open Go.RowKit Go.Proofs.YtijhamllnnilbaaGreatDoor.Mem Go.Proofs.YtijhamllnnilbaaGreatDoor.Pg Go.Proofs.YtijhamllnnilbaaGreatDoor.Gr Go.Proofs.YtijhamllnnilbaaGreatDoor.Sp
set_option linter.unusedVariables false
set_option linter.unusedSimpArgs false
def t00 : Tri := .leaf ⟨2, [], []⟩
def pgNew (n : Nat) : Nat → Pag := fun i => if i = 0 then ⟨1, 0, 0, Dr.bodyOf [2]⟩ else if i = 1 then ⟨2, 0, 0, fmtL n⟩ else if i = 2 then ⟨3, 0, 0, zs 240⟩ else Pag.zero
theorem ents00 : entsF 0 t00 = [2] := rfl
theorem hs_new (n : Nat) (h8 : 8 ≤ n) (h64 : n ≤ 64) : Hs n (pgNew n) 0 t00 (fmtL n) [] := by
 have hm := isMap_new n h8 h64
 have hb := bt_newL n (by omega)
 have hl := newL_len n
 refine ⟨⟨Nat.le_refl _, by omega, ?_, fun i q hq => ?_, fun b hb p hp => ?_, ?_, fun m hm => ?_, fun b hb c hc => ?_, fun b hb => ?_⟩, ⟨0, 0, rfl⟩, hm.set 2 1 (by omega) (by omega) (.inl rfl), fun m h2 hmn => ?_, fun m hm => by simp at hm, fun m hm => by simp at hm, List.nodup_nil⟩
 · show _ = dirF 0 t00
   unfold dirF
   rw [ents00]; rfl
 · have hq' : q ∈ [((2 : Nat), (⟨3, 0, 0, bodyF []⟩ : Pag))] := hq
   rw [List.mem_singleton] at hq'
   subst hq'
   rw [bodyF_nil]; rfl
 · rw [List.mem_singleton.1 (show b ∈ [(⟨2, [], []⟩ : Lf)] from hb)] at hp
   rw [List.mem_singleton.1 (show p ∈ [((2 : Nat), ([] : List Cel))] from hp)]
   exact fits_nil
 · show [2].Nodup
   simp
 · rw [List.mem_singleton.1 (show m ∈ [2] from hm)]; omega
 · rw [List.mem_singleton.1 (show b ∈ [(⟨2, [], []⟩ : Lf)] from hb)] at hc
   exact absurd (show c ∈ ([] : List Cel) from hc) (by simp)
 · rw [List.mem_singleton.1 (show b ∈ [(⟨2, [], []⟩ : Lf)] from hb)]
   exact List.nodup_nil
 · unfold fmtL
   rw [bt_set _ _ _ (by rw [hl]; omega), hb m]
   show _ ↔ m ∈ [2] ∨ m ∈ []
   by_cases e : 2 = m
   · subst e; simp
   · rw [if_neg e, if_pos hmn, if_neg (by omega)]
     simp
     omega
theorem look00 (k : List UInt8) : lookT t00 k = none := rfl
theorem has00 (k : List UInt8) (i : Nat) : ¬ has k (t00.at' i).cells := fun ⟨c, h, _⟩ => by
 exact absurd (show c ∈ ([] : List Cel) from h) (by simp)
end Go.Proofs.YtijhamllnnilbaaGreatDoor.Ha
namespace Go.Proofs.YtijhamllnnilbaaGreatDoor.Ha
open Go.RowKit Go.Proofs.YtijhamllnnilbaaGreatDoor.Mem Go.Proofs.YtijhamllnnilbaaGreatDoor.Pg Go.Proofs.YtijhamllnnilbaaGreatDoor.Gr Go.Proofs.YtijhamllnnilbaaGreatDoor.Sp
set_option linter.unusedVariables false
set_option linter.unusedSimpArgs false
theorem count_range (ml : List UInt8) (b : UInt8) : ∀ n, n ≤ ml.length → (ml.take n).count b = ((List.range n).filter (fun m => decide (bt ml m = (b.toNat : Int)))).length
 | 0, _ => by simp
 | n + 1, h => by
  rw [List.take_succ_eq_append_getElem (by omega), List.count_append, count_range ml b n (by omega), List.range_succ, List.filter_append, List.length_append]
  congr 1
  by_cases e : ml[n] = b
  · have h1 := (bt_eq ml n (by omega) b).2 e
    simp [e, h1]
  · have h1 : ¬ bt ml n = (b.toNat : Int) := fun h2 => e ((bt_eq ml n (by omega) b).1 h2)
    simp [e, h1]
theorem filter_two (p q : Nat → Bool) : ∀ l : List Nat, (∀ m, m ∈ l → (p m = !(q m))) → (l.filter p).length + (l.filter q).length = l.length
 | [], _ => rfl
 | a :: l, h => by
  have h1 := h a (List.mem_cons_self ..)
  have h2 := filter_two p q l (fun m hm => h m (List.mem_cons_of_mem _ hm))
  cases e : q a with
  | true => rw [e] at h1; rw [List.filter_cons_of_neg (by simp [h1]), List.filter_cons_of_pos e]; simp; omega
  | false => rw [e] at h1; rw [List.filter_cons_of_pos (by simp [h1]), List.filter_cons_of_neg (by simp [e])]; simp; omega
variable {n D : Nat} {pg : Nat → Pag} {t : Tri} {ml : List UInt8} {X : List Nat}
theorem free_len (H : Hs n pg D t ml X) : (ml.take n).count 2 + 2 + (numsF t.leaves).length + X.length = n := by
 have h8 := H.is.ge
 have h64 := H.is.le
 have hl := H.is.len
 rw [count_range ml 2 n (by omega)]
 have hnd : ([0, 1] ++ (numsF t.leaves ++ X)).Nodup := by
  rw [List.nodup_append, List.nodup_append]
  refine ⟨by simp, ⟨H.tb.nums, H.xn, fun a ha b hb e => H.xd b hb (e ▸ ha)⟩, fun a ha b hb e => ?_⟩
  have h2 : 2 ≤ b := by
   rcases List.mem_append.1 hb with h | h
   · exact (H.tb.rng b h).1
   · exact (H.xr b h).1
  simp at ha
  omega
 have hp : ((List.range n).filter (fun m => decide (bt ml m = ((1 : UInt8).toNat : Int)))).Perm ([0, 1] ++ (numsF t.leaves ++ X)) := by
  refine (List.perm_ext_iff_of_nodup (List.nodup_range.filter _) hnd).2 fun m => ?_
  rw [List.mem_filter, List.mem_range, decide_eq_true_eq]
  show m < n ∧ bt ml m = 1 ↔ _
  simp only [List.mem_append, List.mem_cons, List.not_mem_nil, or_false]
  constructor
  · rintro ⟨h1, h2⟩
    by_cases h3 : 2 ≤ m
    · exact .inr ((H.used m h3 h1).1 h2)
    · exact .inl (by omega)
  · rintro (h | h | h)
    · rcases h with rfl | rfl
      · exact ⟨by omega, H.is.b0⟩
      · exact ⟨by omega, H.is.b1⟩
    · have := H.tb.rng m h
      exact ⟨this.2, (H.used m this.1 this.2).2 (.inl h)⟩
    · have := H.xr m h
      exact ⟨this.2, (H.used m this.1 this.2).2 (.inr h)⟩
 have hlen := hp.length_eq
 have htwo := filter_two (fun m => decide (bt ml m = ((2 : UInt8).toNat : Int))) (fun m => decide (bt ml m = ((1 : UInt8).toNat : Int))) (List.range n) (fun m hm => by
  have h1 := H.is.ok m (List.mem_range.1 hm)
  show decide (bt ml m = 2) = !decide (bt ml m = 1)
  rcases h1 with h | h <;> simp [h])
 rw [List.length_range] at htwo
 simp only [List.length_append, List.length_cons, List.length_nil] at hlen
 omega
end Go.Proofs.YtijhamllnnilbaaGreatDoor.Ha
namespace Go.Proofs.YtijhamllnnilbaaGreatDoor.Ha
open Go.RowKit Go.Proofs.YtijhamllnnilbaaGreatDoor.Mem Go.Proofs.YtijhamllnnilbaaGreatDoor.Pg Go.Proofs.YtijhamllnnilbaaGreatDoor.Gr Go.Proofs.YtijhamllnnilbaaGreatDoor.Sp
set_option linter.unusedVariables false
set_option linter.unusedSimpArgs false
def sibF (d h : Nat) : Nat := h % 2 ^ d + (if h / 2 ^ d % 2 = 0 then 2 ^ d else 0)
theorem sib_parts (d h : Nat) : sibF d h % 2 ^ d = h % 2 ^ d ∧ sibF d h / 2 ^ d % 2 = 1 - h / 2 ^ d % 2 ∧ sibF d h < 2 ^ (d + 1) := by
 have hp : 0 < 2 ^ d := Nat.two_pow_pos d
 have hl : h % 2 ^ d < 2 ^ d := Nat.mod_lt _ hp
 have h2 : 2 ^ (d + 1) = 2 ^ d * 2 := Nat.pow_succ ..
 unfold sibF
 by_cases e : h / 2 ^ d % 2 = 0
 · rw [if_pos e, e]
   refine ⟨?_, ?_, by omega⟩
   · rw [Nat.add_mod_right, Nat.mod_mod]
   · rw [Nat.add_div_right _ hp, Nat.div_eq_of_lt hl]
 · rw [if_neg e, Nat.add_zero]
   refine ⟨Nat.mod_mod _ _, ?_, by omega⟩
   rw [Nat.div_eq_of_lt hl]
   omega
theorem dep_zero {t : Tri} {i : Nat} (h : t.dep i = 0) : ∃ b, t = .leaf b := by
 cases t with
 | leaf b => exact ⟨b, rfl⟩
 | node z o =>
  rw [Tri.dep_node] at h
  split at h <;> omega
theorem sub_pair (t : Tri) (h d : Nat) (hd : t.dep h = d + 1) (hs : t.dep (sibF d h) = d + 1) : ∃ a b, t.sub h d = .node (.leaf a) (.leaf b) ∧
 ((h / 2 ^ d % 2 = 0 ∧ t.at' h = a ∧ t.at' (sibF d h) = b) ∨ (h / 2 ^ d % 2 = 1 ∧ t.at' h = b ∧ t.at' (sibF d h) = a)) := by
 obtain ⟨s1, s2, _⟩ := sib_parts d h
 have e1 := Tri.dep_sub t d h h (by omega) rfl
 have e2 := Tri.dep_sub t d h (sibF d h) (by omega) s1
 have f1 := Tri.at_sub t d h h (by omega) rfl
 have f2 := Tri.at_sub t d h (sibF d h) (by omega) s1
 generalize t.sub h d = s at *
 cases s with
 | leaf b => simp [Tri.dep] at e1; omega
 | node z o =>
  rw [Tri.dep_node] at e1 e2
  rw [Tri.at_node] at f1 f2
  by_cases hb : h / 2 ^ d % 2 = 0
  · rw [if_pos hb] at e1 f1
    rw [if_neg (by omega)] at e2 f2
    obtain ⟨a, rfl⟩ := dep_zero (t := z) (i := h / 2 ^ d / 2) (by omega)
    obtain ⟨b, rfl⟩ := dep_zero (t := o) (i := sibF d h / 2 ^ d / 2) (by omega)
    exact ⟨a, b, rfl, .inl ⟨hb, f1, f2⟩⟩
  · rw [if_neg hb] at e1 f1
    rw [if_pos (by omega)] at e2 f2
    obtain ⟨a, rfl⟩ := dep_zero (t := z) (i := sibF d h / 2 ^ d / 2) (by omega)
    obtain ⟨b, rfl⟩ := dep_zero (t := o) (i := h / 2 ^ d / 2) (by omega)
    exact ⟨a, b, rfl, .inr ⟨by omega, f1, f2⟩⟩
theorem entsF_merge (D : Nat) (t : Tri) (h d : Nat) (hd : d ≤ t.dep h) (b' : Lf) : entsF D (t.upd h d (.leaf b')) = Dr.setTo (entsF D t) (2 ^ d) ((h % 2 ^ d : Nat) : Int) b'.n (entsF D t).length := by
 refine List.ext_getElem (by rw [Dr.setTo_len, entsF_len, entsF_len]) fun i h1 h2 => ?_
 have hi : i < 2 ^ D := by rw [entsF_len] at h1; exact h1
 have e1 := entsF_get D (t.upd h d (.leaf b')) i hi
 rw [List.getElem?_eq_getElem h1] at e1
 injection e1 with e1
 have e2 := Dr.setTo_get (entsF D t) (2 ^ d) ((h % 2 ^ d : Nat) : Int) b'.n (entsF D t).length i (by rw [entsF_len]; exact hi)
 rw [List.getD_eq_getElem?_getD, List.getElem?_eq_getElem h2, Option.getD_some] at e2
 rw [e1, e2, Tri.at_upd _ _ t h i hd, List.getD_eq_getElem?_getD, entsF_get _ _ _ hi, Option.getD_some, entsF_len]
 by_cases hs : i % 2 ^ d = h % 2 ^ d
 · rw [if_pos hs, if_pos ⟨hi, by rw [hs]⟩]
   rfl
 · rw [if_neg hs, if_neg]
   rintro ⟨_, h3⟩
   exact hs (by exact_mod_cast h3)
variable {n D : Nat} {pg : Nat → Pag} {t : Tri} {ml : List UInt8} {X : List Nat}
theorem Hs.merge (H : Hs n pg D t ml X) (h d : Nat) (hd : t.dep h = d + 1) (a b : Lf) (hsub : t.sub h d = .node (.leaf a) (.leaf b)) (ha : a.ov = []) (hb : b.ov = []) (m : List Cel) (hm : m.Perm (a.cs ++ b.cs)) (hf : Fits m) {md mx : Int} (hp1 : pg 1 = ⟨2, md, mx, ml⟩) :
 bt ml b.n = 1 ∧ 2 ≤ b.n ∧ b.n < n ∧ a.n < n ∧ Hs n (updN (updN (updN pg a.n ⟨3, (d : Nat), 0, bodyF m⟩) 1 ⟨2, md, mx, ml.set b.n 2⟩) 0 (dirF D (t.upd h d (.leaf ⟨a.n, m, []⟩)))) D (t.upd h d (.leaf ⟨a.n, m, []⟩)) (ml.set b.n 2) X ∧
  (∀ k, lookT (t.upd h d (.leaf ⟨a.n, m, []⟩)) k = lookT t k) ∧ SameX X pg (updN (updN (updN pg a.n ⟨3, (d : Nat), 0, bodyF m⟩) 1 ⟨2, md, mx, ml.set b.n 2⟩) 0 (dirF D (t.upd h d (.leaf ⟨a.n, m, []⟩)))) ∧
  (numsF (t.upd h d (.leaf ⟨a.n, m, []⟩)).leaves).length + 1 = (numsF t.leaves).length := by
 have T := H.tb
 have hk : d ≤ t.dep h := by omega
 obtain ⟨L, R, e1, e2⟩ := Tri.leaves_upd d t h hk
 rw [hsub] at e1
 have hsl : (t.sub h d).leaves = [a, b] := by rw [hsub]; rfl
 have e1' : t.leaves = L ++ ([a, b] ++ R) := e1
 have e3 : (t.upd h d (.leaf ⟨a.n, m, []⟩)).leaves = L ++ ([(⟨a.n, m, []⟩ : Lf)] ++ R) := e2 _
 have hal : a ∈ t.leaves := by rw [e1']; simp
 have hbl : b ∈ t.leaves := by rw [e1']; simp
 have n2 : numsF [a, b] = [a.n, b.n] := by simp [numsF, nums_of_n ha, nums_of_n hb]
 have n1 : numsF [(⟨a.n, m, []⟩ : Lf)] = [a.n] := by simp [numsF, Lf.nums, Lf.pgs]
 have hnd := T.nums
 rw [e1', numsF_append, numsF_append, n2, List.nodup_append, List.nodup_append] at hnd
 obtain ⟨nL, ⟨nAB, nR, nABR⟩, nLX⟩ := hnd
 have hab : a.n ≠ b.n := by simpa using nAB
 have har := T.rng a.n (numsF_mem hal a.n_mem)
 have hbr := T.rng b.n (numsF_mem hbl b.n_mem)
 have hbu := (H.used b.n hbr.1 hbr.2).2 (.inl (numsF_mem hbl b.n_mem))
 have hbL : b.n ∉ numsF L := fun h1 => nLX _ h1 b.n (List.mem_append_left _ (by simp)) rfl
 have hbR : b.n ∉ numsF R := fun h1 => nABR b.n (by simp) _ h1 rfl
 have hmem : ∀ y, y ∈ numsF (t.upd h d (.leaf ⟨a.n, m, []⟩)).leaves ↔ y ∈ numsF t.leaves ∧ y ≠ b.n := fun y => by
  rw [e3, e1']
  simp only [numsF_append, n1, n2, List.mem_append, List.mem_cons, List.not_mem_nil, or_false]
  constructor
  · rintro (h1 | h1 | h1)
    · exact ⟨.inl h1, fun e => hbL (e ▸ h1)⟩
    · exact ⟨.inr (.inl (.inl h1)), fun e => hab (by rw [← h1, e])⟩
    · exact ⟨.inr (.inr h1), fun e => hbR (e ▸ h1)⟩
  · rintro ⟨h1 | (h1 | h1) | h1, h2⟩
    · exact .inl h1
    · exact .inr (.inl h1)
    · exact absurd h1 h2
    · exact .inr (.inr h1)
 have hca := cells_of_cs ha
 have hcb := cells_of_cs hb
 -- what leads to the two
 have hin : ∀ i, i % 2 ^ d = h % 2 ^ d ↔ (t.at' i = a ∨ t.at' i = b) := fun i => by
  constructor
  · intro e
    have h1 := Tri.at_sub t d h i hk e
    rw [hsub, Tri.at_node] at h1
    by_cases hb' : i / 2 ^ d % 2 = 0
    · rw [if_pos hb'] at h1; exact .inl h1
    · rw [if_neg hb'] at h1; exact .inr h1
  · intro e
    refine Classical.byContradiction fun hne => ?_
    have h1 := Tri.at_mem (t.upd h d (.leaf ⟨n, [], []⟩)) i
    rw [Tri.at_upd _ _ t h i hk, if_neg hne, e2] at h1
    have h2 : t.at' i ∈ L ∨ t.at' i ∈ R := by
     rcases List.mem_append.1 h1 with h3 | h3
     · exact .inl h3
     · rcases List.mem_append.1 h3 with h4 | h4
       · have h5 := congrArg Lf.n (List.mem_singleton.1 h4)
         have h6 := (T.at_rng i).2
         simp only at h5
         omega
       · exact .inr h4
    have hnum : (t.at' i).n = a.n ∨ (t.at' i).n = b.n := by rcases e with e | e; exact .inl (by rw [e]); exact .inr (by rw [e])
    rcases h2 with h2 | h2
    · have h3 := numsF_mem h2 (t.at' i).n_mem
      exact nLX _ h3 _ (List.mem_append_left _ (by simp; exact hnum)) rfl
    · have h3 := numsF_mem h2 (t.at' i).n_mem
      exact nABR (t.at' i).n (by simp; exact hnum) _ h3 rfl
 have hleadA : ∀ c, c ∈ a.cs → t.at' (sumF c.key) = a := fun c hc => T.lead a hal c (by rw [hca]; exact hc)
 have hleadB : ∀ c, c ∈ b.cs → t.at' (sumF c.key) = b := fun c hc => T.lead b hbl c (by rw [hcb]; exact hc)
 have hne : a ≠ b := fun e => hab (by rw [e])
 have hkm : ((a.cs ++ b.cs).map Cel.key).Nodup := by
  rw [List.map_append, List.nodup_append]
  have ka := T.keys a hal
  have kb := T.keys b hbl
  rw [hca] at ka
  rw [hcb] at kb
  refine ⟨ka, kb, fun x hx y hy e => ?_⟩
  obtain ⟨c, hc, rfl⟩ := List.mem_map.1 hx
  obtain ⟨c', hc', e'⟩ := List.mem_map.1 hy
  have h1 := hleadA c hc
  rw [e, ← e', hleadB c' hc'] at h1
  exact hne h1.symm
 have hcm : (⟨a.n, m, []⟩ : Lf).cells = m := cells_of_cs rfl
 have P : Part n (updN (updN (updN pg a.n ⟨3, (d : Nat), 0, bodyF m⟩) 1 ⟨2, md, mx, ml.set b.n 2⟩) 0 (dirF D (t.upd h d (.leaf ⟨a.n, m, []⟩)))) t h d (.leaf ⟨a.n, m, []⟩) := by
  have hlf : (Tri.leaf ⟨a.n, m, []⟩).leaves = [(⟨a.n, m, []⟩ : Lf)] := rfl
  refine ⟨fun i q hq => ?_, fun b' hb' p hp => ?_, ?_, fun y hy => ?_, fun y hy => ?_, fun b' hb' c hc => ?_, fun b' hb' => ?_⟩
  · simp [Tri.at', Tri.dep, Lf.pags, Lf.pgs, pagsF, nextF] at hq
    subst hq
    rw [updN_other _ _ (by show a.n ≠ 0; omega), updN_other _ _ (by show a.n ≠ 1; omega), updN_same]
  · rw [hlf, List.mem_singleton] at hb'
    subst hb'
    rcases List.mem_cons.1 hp with rfl | hp
    · exact hf
    · cases hp
  · rw [hlf, n1]; simp
  · rw [hlf, n1, List.mem_singleton] at hy
    rw [hy]; exact har
  · rw [hlf, n1, List.mem_singleton] at hy
    rw [hsl, n2]
    exact .inl (by rw [hy]; simp)
  · rw [hlf, List.mem_singleton] at hb'
    subst hb'
    rw [hcm] at hc
    refine ⟨(hin _).2 ?_, rfl⟩
    rcases List.mem_append.1 (hm.mem_iff.1 hc) with h1 | h1
    · exact .inl (hleadA c h1)
    · exact .inr (hleadB c h1)
  · rw [hlf, List.mem_singleton] at hb'
    subst hb'
    rw [hcm]
    exact (hm.map Cel.key).nodup_iff.2 hkm
 have hother : ∀ y, 2 ≤ y → y ≠ a.n → updN (updN (updN pg a.n ⟨3, (d : Nat), 0, bodyF m⟩) 1 ⟨2, md, mx, ml.set b.n 2⟩) 0 (dirF D (t.upd h d (.leaf ⟨a.n, m, []⟩))) y = pg y := fun y h2 h3 => by
  rw [updN_other _ _ (by omega), updN_other _ _ (by omega), updN_other _ _ h3]
 refine ⟨hbu, hbr.1, hbr.2, har.2, ⟨T.upd hk P (Nat.le_refl _) ?_ T.d5 (updN_same ..) (fun y h1 h2 => ?_), ⟨md, mx, ?_⟩, H.is.set b.n 2 hbr.1 hbr.2 (.inr rfl), fun y h2 hy => ?_, H.xr, fun y hy h1 => H.xd y hy ((hmem y).1 h1).1, H.xn⟩, fun k => ?_, fun y hy => ?_, ?_⟩
 · have := t.dep_le h
   have := T.hi
   show d + 0 ≤ D
   omega
 · rw [hsl, n2] at h2
   exact hother y (T.rng y h1).1 (fun e => h2 (by rw [e]; simp))
 · rw [updN_other _ _ (by omega), updN_same]
 · rw [bt_set _ _ _ (by have := H.is.len; have := H.is.le; omega), hmem y]
   by_cases e : b.n = y
   · subst e
     rw [if_pos rfl]
     refine ⟨fun h1 => absurd h1 (by decide), fun h1 => ?_⟩
     rcases h1 with h1 | h1
     · exact absurd rfl h1.2
     · exact absurd (numsF_mem hbl b.n_mem) (H.xd _ h1)
   · rw [if_neg e, H.used y h2 hy]
     constructor
     · rintro (h1 | h1); exact .inl ⟨h1, fun e' => e e'.symm⟩; exact .inr h1
     · rintro (h1 | h1); exact .inl h1.1; exact .inr h1
 · unfold lookT
   rw [Tri.at_upd _ _ t h _ hk]
   by_cases e : sumF k % 2 ^ d = h % 2 ^ d
   · rw [if_pos e]
     show lookF k (⟨a.n, m, []⟩ : Lf).cells = _
     rw [hcm, lookF_perm hm hkm]
     rcases (hin _).1 e with h1 | h1
     · rw [h1, hca]
       unfold lookF
       rw [List.find?_append]
       cases hfa : a.cs.find? (fun c => decide (c.key = k)) with
       | some c => rfl
       | none =>
        have : b.cs.find? (fun c => decide (c.key = k)) = none := by
         rw [List.find?_eq_none]
         intro c hc hck
         have h2 := hleadB c hc
         rw [show c.key = k by simpa using hck, h1] at h2
         exact hne h2
        rw [this]; rfl
     · rw [h1, hcb]
       unfold lookF
       rw [List.find?_append]
       have : a.cs.find? (fun c => decide (c.key = k)) = none := by
        rw [List.find?_eq_none]
        intro c hc hck
        have h2 := hleadA c hc
        rw [show c.key = k by simpa using hck, h1] at h2
        exact hne h2.symm
       rw [this]; rfl
   · rw [if_neg e]
 · have h2 := H.xr y hy
   exact hother y h2.1 (fun e => H.xd y hy (e ▸ numsF_mem hal a.n_mem))
 · rw [e3, e1']
   simp only [numsF_append, n1, n2, List.length_append, List.length_cons, List.length_nil]
   omega
theorem Hs.half (H : Hs n pg (D + 1) t ml X) (h : t.height ≤ D) : Hs n (updN pg 0 (dirF D t)) D t ml X ∧ SameX X pg (updN pg 0 (dirF D t)) := by
 have T := H.tb
 refine ⟨⟨⟨h, by have := T.d5; omega, updN_same .., fun i q hq => ?_, T.fits, T.nums, T.rng, T.lead, T.keys⟩, ?_, H.is, H.used, H.xr, H.xd, H.xn⟩, (SameX.refl X pg).upd (H.notX (by omega)) _⟩
 · have h1 := T.rng _ (numsF_mem (t.at_mem i) (by
    have h9 : q.1 ∈ ((t.at' i).pags (t.dep i)).map (·.1) := List.mem_map_of_mem hq
    unfold Lf.pags at h9
    rw [pagsF_nums] at h9
    exact h9))
   rw [updN_other _ _ (by omega)]
   exact T.shown i q hq
 · rw [updN_other _ _ (by omega)]
   exact H.map
theorem ents_odd (T : Tb n pg D t) (h : t.height = D) : ¬ (2 ≤ (entsF D t).length ∧ (entsF D t).take ((entsF D t).length / 2) = (entsF D t).drop ((entsF D t).length / 2)) := by
 rintro ⟨h2, he⟩
 rw [entsF_len] at h2 he
 cases D with
 | zero => simp at h2
 | succ D =>
  have hp : 2 ^ (D + 1) = 2 ^ D * 2 := Nat.pow_succ ..
  have hh : 2 ^ (D + 1) / 2 = 2 ^ D := by omega
  rw [hh] at he
  obtain ⟨i, hi, hdi⟩ := t.height_at
  rw [h] at hi hdi
  have key : ∀ j, j < 2 ^ D → (t.at' j).n = (t.at' (j + 2 ^ D)).n := fun j hj => by
   have h3 := congrArg (fun l => l[j]?) he
   simp only [List.getElem?_take, if_pos hj, List.getElem?_drop] at h3
   rw [entsF_get _ _ _ (by omega), Nat.add_comm (2 ^ D) j, entsF_get _ _ _ (by omega)] at h3
   injection h3 with h3
   omega
  by_cases hlt : i < 2 ^ D
  · have h3 := (T.inj i (i + 2 ^ D) (key i hlt)).2.2
    rw [hdi, Nat.mod_eq_of_lt (by omega), Nat.mod_eq_of_lt (by omega)] at h3
    have := Nat.two_pow_pos D
    omega
  · have h4 := key (i - 2 ^ D) (by omega)
    rw [show i - 2 ^ D + 2 ^ D = i by omega] at h4
    have h3 := (T.inj i (i - 2 ^ D) h4.symm).2.2
    rw [hdi, Nat.mod_eq_of_lt (by omega), Nat.mod_eq_of_lt (by omega)] at h3
    have := Nat.two_pow_pos D
    omega
theorem sib_ne (T : Tb n pg D t) {h d : Nat} (hd : t.dep h = d + 1) : t.at' (sibF d h) ≠ t.at' h := fun e => by
 have h1 := (T.inj h (sibF d h) (by rw [e])).2.2
 rw [hd] at h1
 obtain ⟨s1, s2, s3⟩ := sib_parts d h
 have e1 := pow_split h d
 have e2 := pow_split (sibF d h) d
 rw [s1, s2] at e2
 rw [h1, e2] at e1
 have h2 : 2 ^ d * (1 - h / 2 ^ d % 2) = 2 ^ d * (h / 2 ^ d % 2) := by omega
 have h3 := Nat.eq_of_mul_eq_mul_left (Nat.two_pow_pos d) h2
 omega
theorem sib_keys (T : Tb n pg D t) {h d : Nat} (hd : t.dep h = d + 1) : (((t.at' h).cells ++ (t.at' (sibF d h)).cells).map Cel.key).Nodup := by
 rw [List.map_append, List.nodup_append]
 refine ⟨T.keys _ (t.at_mem h), T.keys _ (t.at_mem _), fun x hx y hy e => ?_⟩
 obtain ⟨c, hc, rfl⟩ := List.mem_map.1 hx
 obtain ⟨c', hc', e'⟩ := List.mem_map.1 hy
 have h1 := T.lead _ (t.at_mem h) c hc
 have h2 := T.lead _ (t.at_mem _) c' hc'
 rw [e', ← e, h1] at h2
 exact sib_ne T hd h2.symm
inductive Mergd (h : Nat) : Tri → Tri → Prop
 | refl (t : Tri) : Mergd h t t
 | step {t t2 : Tri} (d : Nat) (a b : Lf) (m : List Cel) (hd : t.dep h = d + 1) (hsub : t.sub h d = .node (.leaf a) (.leaf b)) (hm : m.Perm (a.cs ++ b.cs)) (hr : Mergd h (t.upd h d (.leaf ⟨a.n, m, []⟩)) t2) : Mergd h t t2
theorem Mergd.last {h : Nat} {t t1 : Tri} (hr : Mergd h t t1) (d : Nat) (a b : Lf) (m : List Cel) (hd : t1.dep h = d + 1) (hsub : t1.sub h d = .node (.leaf a) (.leaf b)) (hm : m.Perm (a.cs ++ b.cs)) : Mergd h t (t1.upd h d (.leaf ⟨a.n, m, []⟩)) := by
 induction hr with
 | refl t => exact .step d a b m hd hsub hm (.refl _)
 | step d' a' b' m' hd' hs' hm' _ ih => exact .step d' a' b' m' hd' hs' hm' (ih hd hsub)
def Stop (h : Nat) (t : Tri) : Prop := t.dep h = 0 ∨ (t.at' h).ov ≠ [] ∨ ∃ d, t.dep h = d + 1 ∧ (t.dep (sibF d h) ≠ d + 1 ∨ (t.at' (sibF d h)).ov ≠ [] ∨ 239 < szs (t.at' h).cells + szs (t.at' (sibF d h)).cells)
end Go.Proofs.YtijhamllnnilbaaGreatDoor.Ha
