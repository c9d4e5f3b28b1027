/- Lemmas of the claim, in their order:
- The contract of hash.Check.
-/
import Derived.Test.YtijhamllnnilbaaGreatDoorU36
import Derived.Test.YtijhamllnnilbaaGreatDoorU35
set_option linter.unusedVariables false
set_option linter.unusedSimpArgs false
namespace Go.Proofs.YtijhamllnnilbaaGreatDoor.Ha
open Go.RowKit Go.Proofs.YtijhamllnnilbaaGreatDoor.Mem Go.Proofs.YtijhamllnnilbaaGreatDoor.Pg Go.Proofs.YtijhamllnnilbaaGreatDoor.Kp Go.Proofs.YtijhamllnnilbaaGreatDoor.Sp Go.Proofs.YtijhamllnnilbaaGreatDoor.Gr
set_option linter.unusedSimpArgs false
set_option linter.unusedVariables false
/-- No page below i is used and not reached. -/
def gI (R : List Nat) (i : Nat) : Bool := decide (∀ r, r ∈ R → i ≤ r)
theorem gI_zero (R : List Nat) : gI R 0 = true := by simp [gI]
theorem gI_end {R : List Nat} {n : Nat} (h : ∀ r, r ∈ R → r < n) : gI R n = decide (R = []) := by
  unfold gI
  rw [Bool.eq_iff_iff, decide_eq_true_eq, decide_eq_true_eq]
  constructor
  · intro h1
    cases R with
    | nil => rfl
    | cons a r => have := h1 a (List.mem_cons_self ..); have := h a (List.mem_cons_self ..); omega
  · intro e; subst e; intro r hr; cases hr
theorem gI_step {V R : List Nat} {i : Nat} {u : Bool} (hd : i ∈ V → i ∉ R) (hu : u = true ↔ i ∈ V ∨ i ∈ R) : gI R (i + 1) = (gI R i && (decide (i ∈ V) == u)) := by
  rw [Bool.eq_iff_iff]
  simp only [gI, Bool.and_eq_true, beq_iff_eq, decide_eq_true_eq]
  constructor
  · intro h
    refine ⟨fun r hr => by have := h r hr; omega, ?_⟩
    have hno : i ∉ R := fun hr => by have := h i hr; omega
    rw [Bool.eq_iff_iff, decide_eq_true_eq, hu]
    exact ⟨fun h => .inl h, fun h => h.resolve_right hno⟩
  · rintro ⟨h1, h2⟩ r hr
    have h3 := h1 r hr
    rcases Nat.lt_or_ge i r with h4 | h4
    · exact h4
    · have e : r = i := by omega
      subst e
      rw [Bool.eq_iff_iff, decide_eq_true_eq, hu] at h2
      exact absurd hr (hd (h2.2 (.inr hr)))
theorem visAll_take (pl : Cel → List Nat) (t : Tri) (E F : List Nat) (j : Nat) (hj : j < F.length) : [0, 1] ++ E ++ (F.take (j + 1)).flatMap (fun i => visF pl (t.at' i)) = ([0, 1] ++ E ++ (F.take j).flatMap (fun i => visF pl (t.at' i))) ++ visF pl (t.at' F[j]) := by
  rw [flatP_step' _ F j hj]; simp only [List.append_assoc]
set_option maxRecDepth 100000 in
set_option maxHeartbeats 8000000 in
theorem check_ok (w0 w : World) (gb mb sb qb c n D : Nat) (pg : Nat → Pag) (tk : Int) (t : Tri) (ml : List UInt8) (X : List Nat) (h : GV w0 w gb mb sb qb c n pg tk) (H : Hs n pg D t ml X) (vl : Cel → List UInt8) (pl : Cel → List Nat)
    (hv : ∀ b, b ∈ t.leaves → ∀ x, x ∈ b.cells → BlobAt n pg x (vl x) (pl x)) (E R : List Nat) (A : Option Addr) (cap : Nat) (hE : Ints w A E.length (toI E)) (hA : ∀ b off, A = some ⟨b, off, none⟩ → b < w.heap.size) (hX : X.Perm ((cellsT t).flatMap pl ++ E ++ R)) :
    Calls Tryz.prog 21 #[.pointer (some ⟨gb, 0, none⟩), .int .i64 n, .slice A E.length cap] w fun e w' => e = .returned (.int .i64 (if R = [] then 0 else 2)) ∧ GV w0 w' gb mb sb qb c n pg tk ∧ Below w.heap.size w w' := by
  have hmk : ∀ W : World, (Instr.makeMap 149 none).run Tryz.prog W = .ok (.map (some W.heap.size)) (W.alloc (.map #[] 0)) := fun W => run_makeMap _ W
  obtain ⟨PR, hPR⟩ : ∃ P : Int, P = if R = [] then 0 else 2 := ⟨_, rfl⟩
  rw [← hPR]
  have HPR := Lib.hid hPR
  clear hPR
  have T := H.tb
  have h64 := h.n64
  have h8 := H.is.ge
  have hgl := h.lt
  have hopen := open_ok w0 w gb mb sb qb c n D pg tk t h T
  have hbk := fun W tb (hW : GV w0 W gb mb sb qb c n pg tk) ht => buckets_ok w0 W gb mb sb qb c n D tb pg tk t hW T ht
  have hent := fun W tb (hW : GV w0 W gb mb sb qb c n pg tk) ht => entries_ok w0 W gb mb sb qb c n D tb pg tk t hW T ht
  obtain ⟨md, mx, hmap⟩ := H.map
  have hpg := fun W => pages_any 2 md mx ml W (by rw [H.is.len]; omega)
  rw [pagesF_map H.is] at hpg
  have hus := fun W (i : Nat) => used_any 2 md mx (i : Int) ml W (by rw [H.is.len]; omega)
  obtain ⟨ML, hML⟩ : ∃ M, M = str ml := ⟨_, rfl⟩
  have HML := Lib.hid hML
  rw [← hML] at hpg
  simp only [← hML] at hus
  have hnd := all_nodup H pl hX
  have hlt := all_lt H pl hX
  have hmem := all_mem H pl hX
  have hval : ∀ i, i < n → (usedF 2 ml (i : Nat) = true ↔ i ∈ visAll pl D t E ∨ i ∈ R) := fun i hi => by
    rw [usedF_map H.is, Int.toNat_natCast, ← hmem i hi]
    exact ⟨fun h => h.2.2, fun h => ⟨by omega, by omega, h⟩⟩
  have hE64 : E.length ≤ 64 := nodup_64 (by
    have h1 := hnd
    unfold visAll at h1
    rw [List.nodup_append, List.nodup_append, List.nodup_append] at h1
    exact h1.1.1.2.1) (fun m hm => by have := hlt m (by unfold visAll; simp [hm]); omega)
  have hF := fstT_len t (2 ^ D)
  have hle := (T.good h64).le
  rw [entsF_len] at hle
  have G0 := Lib.hid h
  have TT := Lib.hid T
  have HV := Lib.hid hv
  have HBK := Lib.hid hbk
  have HENT := Lib.hid hent
  have HVA : Hid (visAll pl D t E = [0, 1] ++ E ++ (fstT t (2 ^ D)).flatMap (fun i => visF pl (t.at' i))) := Lib.hid rfl
  generalize visAll pl D t E = VA at *
  generalize fstT t (2 ^ D) = F at *
  have HND := Lib.hid hnd
  have HLT := Lib.hid hlt
  have HVL := Lib.hid hval
  have HUS := Lib.hid hus
  have HPG := Lib.hid hpg
  have HI := Lib.hid (And.intro hE hA)
  have HMP := Lib.hid hmap
  clear h H T hv hbk hent hnd hlt hval hus hpg hE hA hX hmem hML hmap
  go_enter Tryz.func21, Tryz.ntmps21
  go_wp2_with fail
  with_reducible refine hopen.mono ?_
  rintro e w1 ⟨tb, rfl, htb, ht, g1, k1⟩
  have hb := HBK.out w1 tb g1 ht
  have HT1 := Lib.hid ht
  have B1 := Lib.hid k1.bel
  have hw1 := k1.bel.size
  clear hopen g1 k1 ht
  go_wp2_with fail
  with_reducible refine hb.mono ?_
  rintro e w2 ⟨Ac, cc, cbs, rfl, hcl, hown, hch, g2, k2⟩
  have hget := g2.getR 1 (by omega)
  rw [HMP.out] at hget
  simp only [Pag.v] at hget
  rw [← HML.out, show ((1 : Nat) : Int) = 1 from rfl] at hget
  have HL := Lib.hid hcl
  have HC := Lib.hid hch
  have OC := Lib.hid hown
  have K2 := Lib.hid k2
  have hw2 := k2.size
  clear hb g2 k2 hown hch hcl
  go_wp2_with fail
  with_reducible refine hget.mono ?_
  rintro e w3 ⟨rfl, g3, k3⟩
  obtain ⟨wu, hwu⟩ : ∃ wu, wu = w3.alloc (pagO 2 md mx ML) := ⟨_, rfl⟩
  have K3 : Below w2.heap.size w2 wu := hwu ▸ below_al k3.bel _
  have GU : Hid (GV w0 wu gb mb sb qb c n pg tk) := Lib.hid (hwu ▸ g3.rk (below_al (Below.refl _ w3) _))
  have PU : Hid (wu.heap[w3.heap.size]? = some (pagO 2 md mx ML)) := Lib.hid (hwu ▸ heap_alloc_new w3 _)
  have BU : Hid (Below w.heap.size w wu) := Lib.hid (below_base (below_base B1.out hw1 K2.out) (by omega) K3)
  have HTU : Hid (wu.heap[tb]? = some (tbO gb D (Dr.bdy (entsF D t)))) := Lib.hid (blk_keep (blk_keep HT1.out K2.out) K3)
  have OCU := Lib.hid (own_below OC.out K3)
  have HCU : Hid (∀ (k i cb : Nat), F[k]? = some i → cbs[k]? = some cb → Ch w1.heap.size wu cb gb ((t.at' i).pags (t.dep i))) := Lib.hid (fun k i cb hk hc => (HC.out k i cb hk hc).below K3)
  clear hget g3 k3 K3 HC OC HT1
  go_wp2_with fail
  rw [← hwu]
  obtain ⟨mk, hmkE⟩ : ∃ m, m = w3.heap.size + 1 := ⟨_, rfl⟩
  obtain ⟨rb, hrbE⟩ : ∃ r, r = w3.heap.size + 1 + 1 := ⟨_, rfl⟩
  rw [← hrbE, ← hmkE]
  have hsu : wu.heap.size = mk := by rw [hwu, hmkE]; simp
  have hrm : rb = mk + 1 := by omega
  obtain ⟨w4, hw4⟩ : ∃ w4, w4 = ((wu.alloc (.map #[] 0)).alloc (.cells #[.map (some mk), .bool false] 151)).alloc (.cells #[.int .i64 0, .int .i64 1] 3) := ⟨_, rfl⟩
  rw [← hw4]
  have B4 : Hid (Below wu.heap.size wu w4) := Lib.hid (hw4 ▸ below_al (below_al (below_al (Below.refl _ wu) _) _) _)
  have R4 : Hid (Rch w4 rb mk []) := Lib.hid (by
    have s1 := HadIs.made wu
    rw [hsu] at s1
    refine ⟨?_, ?_, List.nodup_nil, by omega⟩
    · have z := blk_a2 wu (.map #[] 0) #[.map (some mk), .bool false] 151
      rw [hsu, ← hrm] at z
      rw [hw4]
      exact hal z
    · have e : (fun i : Int => decide (i ∈ toI [])) = fun _ => false := by funext i; simp [toI]
      rw [e, hw4]
      exact (s1.below (below_al (Below.refl _ _) _)).below (below_al (Below.refl _ _) _))
  have z4 : w4.heap[rb + 1]? = some (.cells #[.int .i64 0, .int .i64 1] 3 (0, 0)) := by
    have z := heap_alloc_new ((wu.alloc (.map #[] 0)).alloc (.cells #[.map (some mk), .bool false] 151)) (.cells #[.int .i64 0, .int .i64 1] 3)
    rw [← hw4] at z
    have e : ((wu.alloc (.map #[] 0)).alloc (.cells #[.map (some mk), .bool false] 151)).heap.size = rb + 1 := by simp; omega
    rw [e] at z
    exact z
  have hI4 : Ints w4 (some ⟨rb + 1, 0, none⟩) 2 (toI [0, 1]) := ⟨rfl, by omega, fun _ => ⟨rb + 1, 0, rfl, lt_of_block z4, fun j hj => by
    rw [Nat.zero_add, blk_cell z4]
    rcases (show j = 0 ∨ j = 1 by omega) with rfl | rfl <;> rfl⟩⟩
  have hadd1 := radd_ok w4 rb mk [] [0, 1] (some ⟨rb + 1, 0, none⟩) 2 R4.out hI4 (by simp) (fun m hm => by simp at hm; omega) (fun b off e => by injection e with e; injection e with e1 e2; omega)
  change Calls _ _ #[_, .slice _ 2 2] _ _ at hadd1
  have hwm : w.heap.size ≤ wu.heap.size := BU.out.size
  have HSZ := Lib.hid (And.intro hsu hrm)
  clear hw4 hwu z4 hI4 hrbE hmkE hsu hrm
  with_reducible refine hadd1.mono ?_
  rintro e w5 ⟨rfl, hr5, hk5⟩
  rw [List.nil_append] at hr5
  have hmr : wu.heap.size ≤ mk ∧ wu.heap.size ≤ rb := by have := HSZ.out; omega
  have B5 := Lib.hid (below_keep B4.out B4.out.size hk5 (fun i hi => by omega))
  have hndE : ([0, 1] ++ E).Nodup := by
    have h1 := HND.out
    rw [HVA.out, List.append_assoc] at h1
    exact (List.nodup_append.1 h1).1
  have hltE : ∀ m, m ∈ [0, 1] ++ E → m < 64 := fun m hm => by
    have := HLT.out m (by rw [HVA.out, List.append_assoc]; exact List.mem_append_left _ hm)
    omega
  have hadd2 := radd_ok w5 rb mk [0, 1] E A cap hr5 (HI.out.1.below (below_base BU.out hwm B5.out)) hndE hltE (fun b off e => by have := HI.out.2 b off e; omega)
  clear hadd1 hr5 hk5 R4 B4 hndE hltE
  go_wp2_with fail
  with_reducible refine hadd2.mono ?_
  rintro e w6 ⟨rfl, hr6, hk6⟩
  have R6 := Lib.hid hr6
  have B6 := Lib.hid (below_keep B5.out B5.out.size hk6 (fun i hi => by omega))
  have hen := HENT.out w6 tb (GU.out.rk B6.out) (blk_keep HTU.out B6.out)
  clear hadd2 hr6 hk6 B5 HENT
  go_wp2_with fail
  with_reducible refine hen.mono ?_
  rintro e w7 ⟨rfl, hb7⟩
  have R7 : Hid (Rch w7 rb mk ([0, 1] ++ E ++ (F.take 0).flatMap (fun i => visF pl (t.at' i)))) := Lib.hid (by rw [List.take_zero, List.flatMap_nil, List.append_nil]; exact R6.out.below hb7)
  have B7 := Lib.hid (below_base B6.out B6.out.size hb7)
  have cp := blk_cell (blk_keep PU.out B7.out)
  have lp := lt_of_block (blk_keep PU.out B7.out)
  have hn1 : decide ((n : Int) < 1) = false := by simp; omega
  have hn2 : decide (n < 1) = false := by simp; omega
  clear hen hb7 R6 B6
  go_wp2_with fail
  with_reducible refine (HPG.out _).mono ?_
  rintro e w8 ⟨rfl, hb8⟩
  have R8 := Lib.hid (R7.out.below hb8)
  have B8 := Lib.hid (below_base B7.out B7.out.size hb8)
  clear hb8 R7 B7 cp lp HPG
  go_wp2_with fail
  go_loopg [13, 64] F.length (fun k v13 v64 wr => ∃ j : Nat, k + j = F.length ∧ v64 = .int .i64 (j : Nat) ∧ j ≤ F.length ∧ v13 = .bool true ∧ Hid (Rch wr rb mk ([0, 1] ++ E ++ (F.take j).flatMap (fun i => visF pl (t.at' i)))) ∧ Hid (Below wu.heap.size wu wr))
  case atStart => exact ⟨0, rfl, rfl, Nat.zero_le _, rfl, R8, B8⟩
  case round =>
    clear R8 B8
    obtain ⟨j, hkj, rfl, hj, rfl, R9, B9⟩ := hrel
    by_cases hlt : j < F.length
    · have hjI : (j : Int) < (F.length : Int) := by omega
      have i1w : IntKind.i64.wrap ((j : Int) + 1) = (j : Int) + 1 := IntWalk.i64_in _ (by omega)
      have hjc : j < cbs.length := by have := HL.out; omega
      have oc := own_below OCU.out B9.out
      obtain ⟨gq, rfl⟩ : ∃ g, Ac = some ⟨g, 0, none⟩ := by
        rcases oc.2 with ⟨_, h0⟩ | ⟨g, cap, cur, h0, _⟩
        · have := HL.out; omega
        · injection h0 with h0; exact ⟨g, h0⟩
      have hcb := own_at oc j (.pointer (some ⟨cbs[j], 0, none⟩)) (by simp [ptrs, hjc])
      have lcq := own_lt oc gq rfl
      have hm := t.at_mem F[j]
      have hchU := HCU.out j F[j] cbs[j] (List.getElem?_eq_getElem hlt) (List.getElem?_eq_getElem hjc)
      have hstep := visAll_take pl t E F j hlt
      have hsub : ([0, 1] ++ E ++ (F.take (j + 1)).flatMap (fun i => visF pl (t.at' i))).Sublist (VA ++ R) := by
        rw [HVA.out]
        refine List.Sublist.trans ?_ (List.sublist_append_left _ _)
        refine List.Sublist.append_left ?_ _
        have e : F.flatMap (fun i => visF pl (t.at' i)) = (F.take (j + 1)).flatMap (fun i => visF pl (t.at' i)) ++ (F.drop (j + 1)).flatMap (fun i => visF pl (t.at' i)) := by rw [← List.flatMap_append, List.take_append_drop]
        rw [e]
        exact List.sublist_append_left _ _
      have hnV := List.Nodup.sublist hsub HND.out
      have h6V : ∀ m, m ∈ [0, 1] ++ E ++ (F.take (j + 1)).flatMap (fun i => visF pl (t.at' i)) → m < 64 := fun m hm => by have := HLT.out m (hsub.subset hm); omega
      rw [hstep] at hnV h6V
      have hvis := visit_ok w0 wu wr gb mb sb qb c n (t.dep F[j]) cbs[j] _ rb mk (F[j] % 2 ^ t.dep F[j]) pg tk (t.at' F[j]) vl pl _ GU.out hchU B9.out R9.out ⟨hmr.2, hmr.1⟩ (by have := t.dep_le F[j]; have := TT.out.hi; have := TT.out.d5; omega)
        (TT.out.fits _ hm) (TT.out.chn h64 F[j]).len (fun x hx => ⟨by
          have h1 := TT.out.lead _ hm x hx
          have h2 := TT.out.inj F[j] (sumF x.key) (by rw [h1])
          exact h2.2.2.symm, cel_ok TT.out hm hx, HV.out _ hm x hx⟩) (TT.out.keys _ hm) hnV h6V
      rw [← hstep] at hvis
      have hlead := fun W (hW : Below wu.heap.size wu W) => leads_ok W gb n D tb cbs[j] _ F[j] pg t TT.out h64 (blk_keep HTU.out hW) (hchU.below hW)
      have HLD := Lib.hid hlead
      clear hsub hnV h6V hstep hchU hm oc hlead
      generalize cbs[j] = CB at *
      go_wp2_with fail
      with_reducible refine hvis.mono ?_
      rintro e wa ⟨rfl, hra, hba⟩
      have Ra := Lib.hid hra
      have Ba := Lib.hid hba
      clear hra hba hvis hcb lcq
      go_wp2_with fail
      with_reducible refine (HLD.out _ Ba.out).mono ?_
      rintro e wb ⟨rfl, hbb⟩
      have Rb := Lib.hid (Ra.out.below hbb)
      have Bb := Lib.hid (below_base Ba.out Ba.out.size hbb)
      clear hbb Ra Ba HLD R9 B9
      go_wp2_with fail
      go_roundg (gk - 1)
      case measure => omega
      case rel => exact ⟨j + 1, by omega, by simp, by omega, rfl, Rb, Bb⟩
    · obtain rfl : j = F.length := by omega
      have RF := R9.out
      rw [List.take_length, ← HVA.out] at RF
      have K9 := Lib.hid RF.blk
      have M9 : Hid (HadIs wr mk (fun q => decide (q ∈ toI (fromJ VA 0))) (fromJ VA 0).length) := Lib.hid (by rw [fromJ_zero]; exact RF.map)
      clear RF R9
      go_wp2_with fail
      have hndV : VA.Nodup := (List.nodup_append.1 HND.out).1
      have hdis : ∀ i, i ∈ VA → i ∉ R := fun i h1 h2 => (List.nodup_append.1 HND.out).2.2 i h1 i h2 rfl
      have HDIS := Lib.hid hdis
      have HNDV := Lib.hid hndV
      clear hndV hdis
      go_loopg [13, 81] n (fun k v13 v81 wr => ∃ i : Nat, k + i = n ∧ v81 = .int .i64 (i : Nat) ∧ i ≤ n ∧ v13 = .bool (gI R i) ∧ Hid (wr.heap[rb]? = some (.cells #[.map (some mk), .bool false] 151 (0, 0))) ∧
        Hid (HadIs wr mk (fun q => decide (q ∈ toI (fromJ VA i))) (fromJ VA i).length) ∧ Hid (Below wu.heap.size wu wr))
      case atStart => exact ⟨0, rfl, rfl, Nat.zero_le _, by rw [gI_zero], K9, M9, B9⟩
      case round =>
        clear K9 M9 B9
        obtain ⟨i, hki, rfl, hi, rfl, K9, M9, B9⟩ := hrel
        by_cases hil : i < n
        · have hiI : (i : Int) < (n : Int) := by omega
          have i1w : IntKind.i64.wrap ((i : Int) + 1) = (i : Int) + 1 := IntWalk.i64_in _ (by omega)
          have hwf : (Lit.int .i64 (i : Nat)).wf = true := kl_wf (by omega) (by omega)
          have hgs := gI_step (V := VA) (R := R) (i := i) (u := usedF 2 ml (i : Nat)) (HDIS.out i) (HVL.out i hil)
          have hus := fun W => HUS.out W i
          have hlk : Hid (∀ W, Below wr.heap.size wr W → (Instr.lookup 149 (.map (some mk)) (.int .i64 (i : Nat)) false).run Tryz.prog W = .ok (.bool (decide (i ∈ VA))) W) := Lib.hid (fun W hW => by
            have h1 := (M9.out.below hW).look (i : Nat) hwf
            have e : decide (((i : Nat) : Int) ∈ toI (fromJ VA i)) = decide (i ∈ VA) := by
              rw [Bool.eq_iff_iff, decide_eq_true_eq, decide_eq_true_eq, toI_mem, fromJ_mem]
              exact ⟨fun h => h.1, fun h => ⟨h, Nat.le_refl _⟩⟩
            rwa [e] at h1)
          generalize decide (i ∈ VA) = av at *
          generalize usedF 2 ml (i : Nat) = uv at *
          have HGS := Lib.hid hgs
          have HUSI := Lib.hid hus
          clear hgs hus
          rcases hgi : gI R i with _ | _
          · have Hgi := Lib.hid hgi
            clear hgi
            go_wp2_with fail
            refine wp_region_held_drew (S := (Bz wr)) (by kernel_rfl) (below_dr (Below.refl _ _)) (fun hHeld => ?_)
            refine Ra.W 0 ?_ ?_ hHeld ?_
            rotate_left
            · intro wq hSw
              go_simp
              try with_reducible rfl
            try simp only [Act.put, List.getElem_toArray, List.getElem_cons_succ, List.getElem_cons_zero, List.setIfInBounds_toArray, List.set_cons_zero, List.set_cons_succ]
            refine Ra.W 1 ?_ ?_ hHeld ?_
            rotate_left
            · intro wq hSw
              go_simp
              try with_reducible rfl
            try simp only [Act.put, List.getElem_toArray, List.getElem_cons_succ, List.getElem_cons_zero, List.setIfInBounds_toArray, List.set_cons_zero, List.set_cons_succ]
            refine Ra.U 2 hHeld ?_
            try simp only [Act.put, List.getElem_toArray, List.getElem_cons_succ, List.getElem_cons_zero, List.setIfInBounds_toArray, List.set_cons_zero, List.set_cons_succ]
            refine Ra.U 3 hHeld ?_
            try simp only [Act.put, List.getElem_toArray, List.getElem_cons_succ, List.getElem_cons_zero, List.setIfInBounds_toArray, List.set_cons_zero, List.set_cons_succ]
            refine Ra.U 4 hHeld ?_
            try simp only [Act.put, List.getElem_toArray, List.getElem_cons_succ, List.getElem_cons_zero, List.setIfInBounds_toArray, List.set_cons_zero, List.set_cons_succ]
            refine Ra.U 5 hHeld ?_
            try simp only [Act.put, List.getElem_toArray, List.getElem_cons_succ, List.getElem_cons_zero, List.setIfInBounds_toArray, List.set_cons_zero, List.set_cons_succ]
            refine Ra.U 6 hHeld ?_
            try simp only [Act.put, List.getElem_toArray, List.getElem_cons_succ, List.getElem_cons_zero, List.setIfInBounds_toArray, List.set_cons_zero, List.set_cons_succ]
            refine Ra.U 7 hHeld ?_
            try simp only [Act.put, List.getElem_toArray, List.getElem_cons_succ, List.getElem_cons_zero, List.setIfInBounds_toArray, List.set_cons_zero, List.set_cons_succ]
            refine Ra.U 8 hHeld ?_
            try simp only [Act.put, List.getElem_toArray, List.getElem_cons_succ, List.getElem_cons_zero, List.setIfInBounds_toArray, List.set_cons_zero, List.set_cons_succ]
            refine Ra.U 9 hHeld ?_
            try simp only [Act.put, List.getElem_toArray, List.getElem_cons_succ, List.getElem_cons_zero, List.setIfInBounds_toArray, List.set_cons_zero, List.set_cons_succ]
            refine Ra.U 10 hHeld ?_
            try simp only [Act.put, List.getElem_toArray, List.getElem_cons_succ, List.getElem_cons_zero, List.setIfInBounds_toArray, List.set_cons_zero, List.set_cons_succ]
            refine Ra.U 11 hHeld ?_
            try simp only [Act.put, List.getElem_toArray, List.getElem_cons_succ, List.getElem_cons_zero, List.setIfInBounds_toArray, List.set_cons_zero, List.set_cons_succ]
            refine Ra.W 12 ?_ ?_ hHeld ?_
            rotate_left
            · intro wq hSw
              go_simp
              try with_reducible rfl
            try simp only [Act.put, List.getElem_toArray, List.getElem_cons_succ, List.getElem_cons_zero, List.setIfInBounds_toArray, List.set_cons_zero, List.set_cons_succ]
            refine Ra.W 13 ?_ ?_ hHeld ?_
            rotate_left
            · intro wq hSw
              go_simp
              try with_reducible rfl
            try simp only [Act.put, List.getElem_toArray, List.getElem_cons_succ, List.getElem_cons_zero, List.setIfInBounds_toArray, List.set_cons_zero, List.set_cons_succ]
            refine wpAnyH_done (by kernel_rfl) ?_ _
            have Ka := Lib.hid (blk_keep K9.out hHeld)
            have Ma := Lib.hid (M9.out.below hHeld)
            have Ba := Lib.hid (below_base B9.out B9.out.size hHeld)
            have HG1 : Hid (gI R (i + 1) = false) := Lib.hid (by rw [HGS.out, Hgi.out]; rfl)
            clear hHeld
            obtain ⟨wa, hwa⟩ : ∃ wa, wa = wr.drew := ⟨_, rfl⟩
            rw [← hwa] at Ka Ma Ba ⊢
            clear hwa
            obtain ⟨wd, hdel, Md, hgd⟩ : ∃ w', (Builtin.delete_ #[149, 3] 0 #[.map (some mk), .int .i64 (i : Nat)]).run Tryz.prog wa = .ok (.tuple #[]) w' ∧ HadIs w' mk (fun q => decide (q ∈ toI (fromJ VA (i + 1)))) (fromJ VA (i + 1)).length ∧ wa.grownBy w' (some mk) := by
              obtain ⟨w', h1, h2, h3⟩ := Ma.out.drop (i : Nat) hwf 0
              refine ⟨w', h1, ?_, h3⟩
              have e := fromJ_step HNDV.out i
              rw [← e.1, ← e.2]
              exact h2
            have MD := Lib.hid Md
            have KD := Lib.hid (grown_blk hgd (fun e => by injection e with e; have := HSZ.out; omega) Ka.out)
            have BD := Lib.hid (below_keep Ba.out Ba.out.size (Keep.grown (S := fun q => q = mk) hgd (fun k hk => by injection hk with hk; exact hk.symm)) (fun q hq => by omega))
            have cr := blk_cell Ka.out
            have lr := lt_of_block Ka.out
            clear Md hgd Ma
            go_wp2_with fail
            go_roundg (gk - 1)
            case measure => omega
            case rel => exact ⟨i + 1, by omega, by simp, by omega, by rw [HG1.out], KD, MD, BD⟩
          · have Hgi := Lib.hid hgi
            clear hgi
            go_wp2_with fail
            refine wp_region_held_drew (S := (Bz wr)) (by kernel_rfl) (below_dr (Below.refl _ _)) (fun hHeld => ?_)
            refine Ra.W 0 ?_ ?_ hHeld ?_
            rotate_left
            · intro wq hSw
              go_simp
              try with_reducible rfl
            try simp only [Act.put, List.getElem_toArray, List.getElem_cons_succ, List.getElem_cons_zero, List.setIfInBounds_toArray, List.set_cons_zero, List.set_cons_succ]
            refine Ra.W 1 ?_ ?_ hHeld ?_
            rotate_left
            · intro wq hSw
              go_simp
              try with_reducible rfl
            try simp only [Act.put, List.getElem_toArray, List.getElem_cons_succ, List.getElem_cons_zero, List.setIfInBounds_toArray, List.set_cons_zero, List.set_cons_succ]
            refine Ra.W 2 ?_ ?_ hHeld ?_
            rotate_left
            · intro wq hSw
              go_simp
              try with_reducible rfl
            try simp only [Act.put, List.getElem_toArray, List.getElem_cons_succ, List.getElem_cons_zero, List.setIfInBounds_toArray, List.set_cons_zero, List.set_cons_succ]
            refine Ra.W 3 ?_ ?_ hHeld ?_
            rotate_left
            · intro wq hSw
              go_simp
              try with_reducible rfl
            try simp only [Act.put, List.getElem_toArray, List.getElem_cons_succ, List.getElem_cons_zero, List.setIfInBounds_toArray, List.set_cons_zero, List.set_cons_succ]
            refine Ra.W 4 ?_ ?_ hHeld ?_
            rotate_left
            · intro wq hSw
              go_simp
              try with_reducible rfl
            try simp only [Act.put, List.getElem_toArray, List.getElem_cons_succ, List.getElem_cons_zero, List.setIfInBounds_toArray, List.set_cons_zero, List.set_cons_succ]
            refine Ra.W 5 ?_ ?_ hHeld ?_
            rotate_left
            · intro wq hSw
              have hSu := below_base B9.out B9.out.size hSw; have hSc := blk_cell (blk_keep K9.out hSw); have hSl := lt_of_block (blk_keep K9.out hSw); have hSd := blk_cell (blk_keep PU.out hSu); have hSe := lt_of_block (blk_keep PU.out hSu); have hSk := hlk.out _ hSw
              go_simp
              try with_reducible rfl
            try simp only [Act.put, List.getElem_toArray, List.getElem_cons_succ, List.getElem_cons_zero, List.setIfInBounds_toArray, List.set_cons_zero, List.set_cons_succ]
            refine Ra.W 6 ?_ ?_ hHeld ?_
            rotate_left
            · intro wq hSw
              go_simp
              try with_reducible rfl
            try simp only [Act.put, List.getElem_toArray, List.getElem_cons_succ, List.getElem_cons_zero, List.setIfInBounds_toArray, List.set_cons_zero, List.set_cons_succ]
            refine Ra.W 7 ?_ ?_ hHeld ?_
            rotate_left
            · intro wq hSw
              have hSu := below_base B9.out B9.out.size hSw; have hSc := blk_cell (blk_keep K9.out hSw); have hSl := lt_of_block (blk_keep K9.out hSw); have hSd := blk_cell (blk_keep PU.out hSu); have hSe := lt_of_block (blk_keep PU.out hSu); have hSk := hlk.out _ hSw
              go_simp
              try rw [if_neg (by omega)]
              try rw [if_pos (by omega)]
              try with_reducible rfl
            try simp only [Act.put, List.getElem_toArray, List.getElem_cons_succ, List.getElem_cons_zero, List.setIfInBounds_toArray, List.set_cons_zero, List.set_cons_succ]
            refine Ra.W 8 ?_ ?_ hHeld ?_
            rotate_left
            · intro wq hSw
              have hSu := below_base B9.out B9.out.size hSw; have hSc := blk_cell (blk_keep K9.out hSw); have hSl := lt_of_block (blk_keep K9.out hSw); have hSd := blk_cell (blk_keep PU.out hSu); have hSe := lt_of_block (blk_keep PU.out hSu); have hSk := hlk.out _ hSw
              go_simp
              try with_reducible rfl
            try simp only [Act.put, List.getElem_toArray, List.getElem_cons_succ, List.getElem_cons_zero, List.setIfInBounds_toArray, List.set_cons_zero, List.set_cons_succ]
            refine Ra.W 9 ?_ ?_ hHeld ?_
            rotate_left
            · intro wq hSw
              go_simp
              try with_reducible rfl
            try simp only [Act.put, List.getElem_toArray, List.getElem_cons_succ, List.getElem_cons_zero, List.setIfInBounds_toArray, List.set_cons_zero, List.set_cons_succ]
            refine wpAnyH_ready (rs := [10]) (by kernel_rfl) (by simp) ?_
            refine AllReadyH.cons rfl (fun K hK => ?_) AllReadyH.nil
            rw [if_pos (by kernel_rfl)]
            go_simp
            (with_reducible refine (HUSI.out _).mono ?_)
            rintro e wa ⟨rfl, hb6⟩
            go_simp
            refine hK.out _ _ (below_tr hHeld hb6) (fun hHeld2 => ?_)
            clear hK K
            try clear hHeld
            have hHeld := hHeld2
            try clear hHeld2
            refine Ra.W 11 ?_ ?_ hHeld ?_
            rotate_left
            · intro wq hSw
              go_simp
              try rw [if_neg (by omega)]
              try rw [if_pos (by omega)]
              try with_reducible rfl
            try simp only [Act.put, List.getElem_toArray, List.getElem_cons_succ, List.getElem_cons_zero, List.setIfInBounds_toArray, List.set_cons_zero, List.set_cons_succ]
            refine Ra.W 12 ?_ ?_ hHeld ?_
            rotate_left
            · intro wq hSw
              go_simp
              try with_reducible rfl
            try simp only [Act.put, List.getElem_toArray, List.getElem_cons_succ, List.getElem_cons_zero, List.setIfInBounds_toArray, List.set_cons_zero, List.set_cons_succ]
            refine Ra.W 13 ?_ ?_ hHeld ?_
            rotate_left
            · intro wq hSw
              go_simp
              try with_reducible rfl
            try simp only [Act.put, List.getElem_toArray, List.getElem_cons_succ, List.getElem_cons_zero, List.setIfInBounds_toArray, List.set_cons_zero, List.set_cons_succ]
            refine wpAnyH_done (by kernel_rfl) ?_ _
            have Ka := Lib.hid (blk_keep K9.out hHeld)
            have Ma := Lib.hid (M9.out.below hHeld)
            have Ba := Lib.hid (below_base B9.out B9.out.size hHeld)
            have HG1 : Hid (gI R (i + 1) = (av == uv)) := Lib.hid (by rw [HGS.out, Hgi.out]; rfl)
            clear hHeld hb6
            obtain ⟨wd, hdel, Md, hgd⟩ : ∃ w', (Builtin.delete_ #[149, 3] 0 #[.map (some mk), .int .i64 (i : Nat)]).run Tryz.prog wa = .ok (.tuple #[]) w' ∧ HadIs w' mk (fun q => decide (q ∈ toI (fromJ VA (i + 1)))) (fromJ VA (i + 1)).length ∧ wa.grownBy w' (some mk) := by
              obtain ⟨w', h1, h2, h3⟩ := Ma.out.drop (i : Nat) hwf 0
              refine ⟨w', h1, ?_, h3⟩
              have e := fromJ_step HNDV.out i
              rw [← e.1, ← e.2]
              exact h2
            have MD := Lib.hid Md
            have KD := Lib.hid (grown_blk hgd (fun e => by injection e with e; have := HSZ.out; omega) Ka.out)
            have BD := Lib.hid (below_keep Ba.out Ba.out.size (Keep.grown (S := fun q => q = mk) hgd (fun k hk => by injection hk with hk; exact hk.symm)) (fun q hq => by omega))
            have cr := blk_cell Ka.out
            have lr := lt_of_block Ka.out
            clear Md hgd Ma
            go_wp2_with fail
            go_roundg (gk - 1)
            case measure => omega
            case rel => exact ⟨i + 1, by omega, by simp, by omega, by rw [HG1.out], KD, MD, BD⟩
        · obtain rfl : i = n := by omega
          have hge := gI_end (R := R) (n := i) (fun r hr => HLT.out r (List.mem_append_right _ hr))
          have hje := fromJ_end (V := VA) (n := i) (fun m hm => HLT.out m (List.mem_append_left _ hm))
          have hlen := fun ty => M9.out.len ty
          rw [hje] at hlen
          simp only [List.length_nil] at hlen
          have cr := blk_cell K9.out
          have lr := lt_of_block K9.out
          have BF := Lib.hid (below_base BU.out hwm B9.out)
          have GF := Lib.hid (GU.out.rk B9.out)
          rw [hge]
          by_cases hR : R = []
          · have e : decide (R = []) = true := by simp [hR]
            rw [e]
            have HP : Hid (PR = 0) := Lib.hid (HPR.out.trans (if_pos hR))
            clear hR hge hje e
            go_wp2_with fail
            go_ret
            exact ⟨by rw [HP.out]; rfl, GF.out, BF.out⟩
          · have e : decide (R = []) = false := by simp [hR]
            rw [e]
            have HP : Hid (PR = 2) := Lib.hid (HPR.out.trans (if_neg hR))
            clear hR hge hje e hlen
            go_wp2_with fail
            go_ret
            exact ⟨by rw [HP.out]; rfl, GF.out, BF.out⟩
end Go.Proofs.YtijhamllnnilbaaGreatDoor.Ha
