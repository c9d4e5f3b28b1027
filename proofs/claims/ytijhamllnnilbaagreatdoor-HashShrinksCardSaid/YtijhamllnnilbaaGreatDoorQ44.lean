/- Lemmas of the claim, in their order:
- The contract of hash.Cut of a key that is there, shrinking.
- HashShrinks: the walk.
-/
import Derived.Test.YtijhamllnnilbaaGreatDoorQ42
import Derived.Test.YtijhamllnnilbaaGreatDoorQ38
import Derived.Test.YtijhamllnnilbaaGreatDoorQ43
set_option linter.unusedVariables false
set_option linter.unusedSimpArgs false
namespace Go.Proofs.YtijhamllnnilbaaGreatDoor.Ha
open Go.RowKit Go.Proofs.YtijhamllnnilbaaGreatDoor.Mem Go.Proofs.YtijhamllnnilbaaGreatDoor.Pg Go.Proofs.YtijhamllnnilbaaGreatDoor.Kp Go.Proofs.YtijhamllnnilbaaGreatDoor.Sp Go.Proofs.YtijhamllnnilbaaGreatDoor.Gr
set_option linter.unusedSimpArgs false
set_option linter.unusedVariables false
def CutPost (w0 w' : World) (gb mb sb qb c n : Nat) (pg : Nat → Pag) (t : Tri) (X : List Nat) (tk0 : Int) (key : List UInt8) : Prop :=
 ∃ pg' t' ml', St w0 w' gb mb sb qb c n pg' t'.height t' ml' X tk0 ∧ CutSh key t t' ∧ (∀ k, lookT t' k = if k = key then none else lookT t k) ∧ SameX X pg pg'
set_option maxRecDepth 100000 in
set_option maxHeartbeats 8000000 in
theorem cut_shrink_ok (w0 w : World) (gb mb sb qb c n D : Nat) (pg : Nat → Pag) (t : Tri) (ml : List UInt8) (X : List Nat) (tk0 : Int) (key : List UInt8) (h : St w0 w gb mb sb qb c n pg D t ml X tk0) (hk : keyOk key) (hh : has key (t.at' (sumF key)).cells) (hkt : -900000 ≤ tk0 ∧ tk0 ≤ 900000) :
 Calls Tryz.prog 32 #[.pointer (some ⟨gb, 0, none⟩), .string (str key), .bool true] w fun e w' =>
  e = .returned (.int .i64 0) ∧ CutPost w0 w' gb mb sb qb c n pg t X tk0 key ∧ Wk w0.heap.size gb mb w w' := by
 have hkey := fun W => key_any key W
 have hopen := open_ok w0 w gb mb sb qb c n D pg _ t h.gv h.hs.tb
 have hm := t.at_mem (sumF key)
 have hl := hk.2
 have hfits := h.hs.tb.fits _ hm
 have hlen := (h.hs.tb.chn h.gv.n64 (sumF key)).len
 have hLl : ((t.at' (sumF key)).pags (t.dep (sumF key))).length = (t.at' (sumF key)).pgs.length := by unfold Lf.pags; exact pagsF_len ..
 have hpos : 0 < (t.at' (sumF key)).pgs.length := Nat.succ_pos _
 have hgl := h.gv.lt
 have hgb := h.gv.base
 have hw0 : w0.heap.size ≤ w.heap.size := by omega
 have hbuck := fun W tb (hW : GV w0 W gb mb sb qb c n pg (tk0 + ((numsF t.leaves).length : Int))) (ht) (hge) => bucket_ok w0 W gb mb sb qb c n D tb pg _ t key hW h.hs.tb (by omega) ht hge
 have hfind := fun W C cb (hc : Ch C W cb gb ((t.at' (sumF key)).pags (t.dep (sumF key)))) =>
  (cfind_any W C cb gb _ (t.at' (sumF key)).pgs key hc (bkL_pags 3 _ (.inl rfl) _ hfits) (by omega) (by omega)).mono (R' := fun e w' => (∃ (j m : Nat) (cs : List Cel) (y : Cel), e = .returned (.tuple #[.int .i64 (j : Nat), y.v]) ∧ Hid ((t.at' (sumF key)).pgs[j]? = some (m, cs) ∧ has key cs)) ∧ Below W.heap.size W w') (fun e w' ⟨h1, h2⟩ => And.intro (by
   rcases h1.res hfits (h.hs.tb.keys _ hm) with ⟨j, m, cs, y, hj, hc, _, _, he⟩ | ⟨hno, _, _⟩
   · exact ⟨j, m, cs, y, he, Lib.hid ⟨hj, hc⟩⟩
   · exact absurd hh hno) h2)
 have hcut := fun W cb C (hW : GV w0 W gb mb sb qb c n pg (tk0 + ((numsF t.leaves).length : Int))) (hc : Ch C W cb gb ((t.at' (sumF key)).pags (t.dep (sumF key)))) (hC : w0.heap.size ≤ C ∧ gb < C ∧ mb < C) (j m : Nat) (cs : List Cel) (hj : (t.at' (sumF key)).pgs[j]? = some (m, cs)) (hkc : has key cs) =>
  show Calls Tryz.prog 55 #[.pointer (some ⟨cb, 0, none⟩), .int .i64 j, .string (str key)] W fun e w' => e = .returned (.int .i64 0) ∧ (∃ pg', St w0 w' gb mb sb qb c n pg' D (cutT key t) ml X tk0 ∧ SameX X pg pg') ∧ Ch C w' cb gb (((cutT key t).at' (sumF key)).pags ((cutT key t).dep (sumF key))) ∧ Ck w0.heap.size gb mb C W w' ∧ Pk gb mb cb W w' from by
   have hjl : j < (t.at' (sumF key)).pgs.length := (List.getElem?_eq_some_iff.1 hj).1
   obtain ⟨⟨m', q⟩, hq⟩ : ∃ q, ((t.at' (sumF key)).pags (t.dep (sumF key)))[j]? = some q := ⟨_, List.getElem?_eq_getElem (by omega)⟩
   obtain ⟨cs', hj', hbk⟩ := (bkL_pags 3 (t.dep (sumF key) : Nat) (.inl rfl) (t.at' (sumF key)).pgs hfits).at' j m' q hq
   rw [hj] at hj'
   injection hj' with hj'
   injection hj' with h1 h2
   subst h1 h2
   have hmn := (h.hs.tb.rng m (numsF_mem hm (List.mem_map.2 ⟨(m, cs), List.mem_of_getElem? hj, rfl⟩))).2
   have hqok : q.ok := by
    have h3 := h.hs.tb.shown (sumF key) _ (List.mem_of_getElem? hq)
    simp only at h3
    rw [← h3]; exact hW.ok hmn
   have hat := cutT_at key t
   have hself := at_upd_self t (sumF key) (lfOf (cutP key (t.at' (sumF key)).pgs))
   have hcp := h.hs.cut key j m q cs hj hq hkc
   refine (ccut_ok w0 W gb mb sb qb c n cb C j m pg _ _ q cs key hW hc hC hq hbk hkc (by omega) hmn hqok).mono ?_
   rintro e w' ⟨rfl, hch, hg, hck, hpk⟩
   exact ⟨rfl, ⟨_, set_st (cutT_len _ _) hcp.1 hg, (SameX.refl _ _).upd (h.hs.tabX hq) _⟩, by rw [hat.2, show (cutT key t).at' (sumF key) = _ from hself.1, hcp.2]; exact hch, hck, hpk⟩
 have htidy := fun W cb C pg1 (hW : St w0 W gb mb sb qb c n pg1 D (cutT key t) ml X tk0) (hc : Ch C W cb gb (((cutT key t).at' (sumF key)).pags ((cutT key t).dep (sumF key)))) (hC : w0.heap.size ≤ C ∧ gb < C ∧ mb < C) => tidy_ok w0 W gb mb sb qb c n D cb C (sumF key) pg1 (cutT key t) ml X tk0 hW hc hC hkt
 have hshr := fun W tb pg2 ml2 (hW : St w0 W gb mb sb qb c n pg2 D (updB (cutT key t) (sumF key) (tidP ((cutT key t).at' (sumF key)).pgs)) ml2 X tk0) (ht : W.heap[tb]? = some (tbO gb D (Dr.bdy (entsF D (updB (cutT key t) (sumF key) (tidP ((cutT key t).at' (sumF key)).pgs)))))) (hge : w0.heap.size ≤ tb ∧ gb < tb ∧ mb < tb) => shrink_ok w0 W gb mb sb qb c n D tb pg2 _ ml2 X tk0 key hW ht hge (by omega) hkt
 have hents : entsF D (updB (cutT key t) (sumF key) (tidP ((cutT key t).at' (sumF key)).pgs)) = entsF D t := by
  refine Eq.trans (ents_upd D _ _ _ ?_) (entsF_cutT D key t)
  rfl
 rw [hents] at hshr
 have hlook1 := look_cutT h.hs key
 have hLc : 0 < (((t.at' (sumF key)).pags (t.dep (sumF key)))).length := by omega
 rw [decide_eq_true hk] at hkey
 obtain ⟨U, hU⟩ : ∃ U, U = str key := ⟨_, rfl⟩
 rw [← hU] at hkey hbuck hfind hcut hshr ⊢
 have HB := Lib.hid hbuck
 have HF := Lib.hid hfind
 have HC := Lib.hid hcut
 have HTD := Lib.hid htidy
 have HSH := Lib.hid hshr
 have HLK := Lib.hid hlook1
 have HLC := Lib.hid hLc
 clear hU h hm hbuck hfind hcut hh hfits hlen hLl hpos hk htidy hshr hlook1 hents hLc
 go_enter Tryz.func32, Tryz.ntmps32
 go_wp2_with fail
 with_reducible refine (hkey _).mono ?_
 rintro e w1 ⟨rfl, rfl⟩
 go_wp2_with fail
 with_reducible refine hopen.mono ?_
 rintro e w2 ⟨tb, rfl, htb, ht, g2, k2⟩
 have hbk := HB.out w2 tb g2 ht (by omega)
 have K2 := Lib.hid k2
 have HT2 := Lib.hid ht
 have tlt := lt_of_block ht
 clear g2 k2 ht hkey hopen
 go_wp2_with fail
 with_reducible refine hbk.mono ?_
 rintro e w3 ⟨cb, rfl, hch, g3, k3⟩
 have hfd := HF.out w3 _ cb hch
 have CH3 := Lib.hid hch
 have HT3 := Lib.hid (k3.blk HT2.out (by omega))
 have K3 := Lib.hid (K2.out.trans k3)
 have G3 := Lib.hid g3
 have hs2 := K2.out.size
 clear g3 k3 hch hbk
 go_wp2_with fail
 with_reducible refine hfd.mono ?_
 rintro e w4 ⟨⟨j, m, cs, y, rfl, HJ⟩, hb4⟩
 have B4 := Lib.hid (below_al hb4 (celO (str y.key) (str y.val) y.blob y.size))
 have CH4 := Lib.hid (CH3.out.below B4.out)
 have hct := HC.out _ cb w2.heap.size (G3.out.rk B4.out) CH4.out (by omega) j m cs HJ.out.1 HJ.out.2
 simp only [Cel.v]
 have K4 := Lib.hid (K3.out.below B4.out)
 have HT4 := Lib.hid (blk_keep HT3.out B4.out)
 clear hb4 hfd HT3 K3 G3 CH3
 go_wp2_with fail
 with_reducible refine hct.mono ?_
 rintro e w5 ⟨rfl, ⟨pg1, st5, sx5⟩, ch5, hck, hpk⟩
 have htd := HTD.out w5 cb w2.heap.size pg1 st5 ch5 (by omega)
 have HT5 := Lib.hid (hck.blk HT4.out (by omega) (by omega) (by omega) (by omega))
 have SX5 := Lib.hid sx5
 have W5 := Lib.hid (Wk.ck (Wk.of_rk (gb := gb) (mb := mb) K4.out) (hck.mono (by have := K4.out.size; omega)))
 clear st5 sx5 ch5 hck hpk hct
 go_wp2_with fail
 with_reducible refine htd.mono ?_
 rintro e w6 ⟨rfl, ⟨pg2, ml2, st6, lk6, sx6⟩, hck6⟩
 have hsr := HSH.out w6 tb pg2 ml2 st6 (hck6.blk HT5.out (by omega) (by omega) (by omega) (by omega)) (by omega)
 have W6 := Lib.hid (W5.out.ck (hck6.mono (by have := W5.out.size; omega)))
 have SX6 := Lib.hid (SX5.out.trans sx6)
 have LK6 := Lib.hid lk6
 clear st6 lk6 sx6 hck6 htd
 go_wp2_with fail
 with_reducible refine hsr.mono ?_
 rintro e w7 ⟨rfl, hp, hck7⟩
 have HP : Hid (CutPost w0 w7 gb mb sb qb c n pg t X tk0 key ∧ Wk w0.heap.size gb mb w1 w7) := Lib.hid (by
  obtain ⟨pg3, t3, ml3, h1, h2, h3, h4, h5⟩ := hp
  exact ⟨⟨pg3, t3, ml3, h1, ⟨h2, h3⟩, fun k => ((h4 k).trans (LK6.out k)).trans (HLK.out k), SX6.out.trans h5⟩, W6.out.ck (hck7.mono (by have := W6.out.size; omega))⟩)
 clear hp hck7 hsr
 go_wp2_with fail
 go_ret
 exact ⟨rfl, HP.out⟩
end Go.Proofs.YtijhamllnnilbaaGreatDoor.Ha
namespace Go.Proofs.YtijhamllnnilbaaGreatDoor.Ha
open Go.RowKit Go.Proofs.YtijhamllnnilbaaGreatDoor.Mem Go.Proofs.YtijhamllnnilbaaGreatDoor.Pg Go.Proofs.YtijhamllnnilbaaGreatDoor.Kp Go.Proofs.YtijhamllnnilbaaGreatDoor.Sp Go.Proofs.YtijhamllnnilbaaGreatDoor.Gr
set_option linter.unusedSimpArgs false
set_option linter.unusedVariables false
structure Tg (t : Tri) (f : List UInt8 → List UInt8) (J : List (List UInt8)) : Prop where
 kv : Kv t f J
 tight : Tight t
 ev : Ev t
theorem shr_set (w0 W : World) (gb mb sb qb c D : Nat) (pg : Nat → Pag) (t : Tri) (ml : List UInt8) (f : List UInt8 → List UInt8) (J : List (List UInt8)) (k : List UInt8) (h : St w0 W gb mb sb qb c 64 pg D t ml [] (-1)) (ho : Tg t f J) (hk : keyOk k) (hf : (f k).length ≤ 40) :
 Calls Tryz.prog 18 #[.pointer (some ⟨gb, 0, none⟩), .agg #[.string (str k), .string (str (f k)), .int .i64 0, .int .i64 0], .bool true] W fun e w' => ∃ E : Int, e = .returned (.int .i64 E) ∧ Wk w0.heap.size gb mb W w' ∧
  ((E = 0 ∧ ∃ pg' D' t' ml', St w0 w' gb mb sb qb c 64 pg' D' t' ml' [] (-1) ∧ Tg t' f (k :: J)) ∨ E = 6) := by
 have hx : (⟨k, f k, 0, 0⟩ : Cel).ok := (Cel.ok_iff _).2 ⟨hk, .inl ⟨rfl, hf, rfl⟩⟩
 refine (set_ok w0 W gb mb sb qb c 64 D pg t ml [] (-1) ⟨k, f k, 0, 0⟩ true h hx (by omega) (fun _ => split_law w0 gb mb sb qb c 64 [] (-1) k (by have := hk.2; omega) (by omega))).mono ?_
 rintro e w' ⟨hp, hw⟩
 rcases hp with ⟨rfl, pg', D', t', ml', hs, hso, hl, hd⟩ | ⟨rfl, _⟩
 · refine ⟨0, rfl, hw, .inl ⟨rfl, pg', D', t', ml', hs, ho.kv.put k hl, ho.tight.set h.hs.tb hso (fun c hc he => ?_), ho.ev.set hso ((hl k).trans (if_pos rfl))⟩⟩
   have h1 := look_mem h.hs.tb (t.at_mem _) hc
   rw [ho.kv.look] at h1
   by_cases e : c.key ∈ J
   · rw [if_pos e] at h1
     injection h1 with h1
     rw [← h1, he]
     exact Nat.le_refl _
   · rw [if_neg e] at h1; cases h1
 · exact ⟨6, rfl, hw, .inr rfl⟩
theorem shr_cut (w0 W : World) (gb mb sb qb c D : Nat) (pg : Nat → Pag) (t : Tri) (ml : List UInt8) (f : List UInt8 → List UInt8) (J : List (List UInt8)) (k : List UInt8) (h : St w0 W gb mb sb qb c 64 pg D t ml [] (-1)) (ho : Tg t f J) (hk : keyOk k) (E : Int) (hE : (k ∈ J ∧ E = 0) ∨ (k ∉ J ∧ E = 3)) :
 Calls Tryz.prog 32 #[.pointer (some ⟨gb, 0, none⟩), .string (str k), .bool true] W fun e w' => e = .returned (.int .i64 E) ∧
  (∃ pg' D' t' ml', St w0 w' gb mb sb qb c 64 pg' D' t' ml' [] (-1) ∧ Tg t' f (J.filter (fun q => !(q == k))) ∧ (D' = t'.height ∨ (k ∉ J ∧ D' = D ∧ t' = t))) ∧ Wk w0.heap.size gb mb W w' := by
 rcases hE with ⟨hj, rfl⟩ | ⟨hj, rfl⟩
 · refine (cut_shrink_ok w0 W gb mb sb qb c 64 D pg t ml [] (-1) k h hk ((ho.kv.hasK k).2 hj) (by omega)).mono ?_
   rintro e w' ⟨rfl, ⟨pg', t', ml', hs, hc, hl, _⟩, hw⟩
   refine ⟨rfl, ⟨pg', _, t', ml', hs, ⟨⟨fun q => ?_⟩, ho.tight.cutSh hc, ho.ev.cutSh hc⟩, .inl rfl⟩, hw⟩
   rw [hl, ho.kv.look]
   by_cases e : q = k
   · subst e; simp
   · simp [e]
 · refine (cut_none_ok w0 W gb mb sb qb c 64 D pg _ t k true h.gv h.hs.tb (fun hh => hj ((ho.kv.hasK k).1 hh.2))).mono ?_
   rintro e w' ⟨rfl, hg, hr⟩
   exact ⟨rfl, ⟨pg, D, t, ml, ⟨hg, h.hs⟩, by rw [ho.kv.cutNo hj]; exact ho, .inr ⟨hj, rfl, rfl⟩⟩, .of_rk hr⟩
set_option maxRecDepth 100000 in
set_option maxHeartbeats 8000000 in
theorem shr_any (A : Option Addr) (n cp : Nat) (z : Int) (T : Nat → List UInt8) (w : World) (ht : Tab w) (hn64 : n ≤ maxLen) (hT : Txts w A n T) :
 Calls Tryz.prog 8 #[.slice A n cp, .int .i64 z] w fun e w' => e = .returned (.bool true) ∧ Below w.heap.size w w' := by
 have Hal := Lib.hid (fun W (k : Tab W) => alive_any W k)
 have Ht := Lib.hid ht
 have HT := Lib.hid hT
 clear ht hT
 by_cases hlong : 80 < n ∨ z < 0 ∨ 40 < z
 · by_cases h80 : 80 < n
   · have h1I : (80 : Int) < (n : Int) := by omega
     clear hlong
     go_enter Tryz.func8, Tryz.ntmps8
     go_wp2_with fail
     with_reducible refine (Hal.out _ Ht.out).mono ?_
     rintro e w1 ⟨rfl, hb1⟩
     have B1 := Lib.hid hb1
     clear hb1
     go_wp2_with fail
     go_ret
     exact ⟨rfl, B1.out⟩
   · have h1I : ¬ (80 : Int) < (n : Int) := by omega
     by_cases hz0 : z < 0
     · clear hlong
       go_enter Tryz.func8, Tryz.ntmps8
       go_wp2_with fail
       with_reducible refine (Hal.out _ Ht.out).mono ?_
       rintro e w1 ⟨rfl, hb1⟩
       have B1 := Lib.hid hb1
       clear hb1
       go_wp2_with fail
       go_ret
       exact ⟨rfl, B1.out⟩
     · have hz4 : 40 < z := by omega
       clear hlong
       go_enter Tryz.func8, Tryz.ntmps8
       go_wp2_with fail
       with_reducible refine (Hal.out _ Ht.out).mono ?_
       rintro e w1 ⟨rfl, hb1⟩
       have B1 := Lib.hid hb1
       clear hb1
       go_wp2_with fail
       go_ret
       exact ⟨rfl, B1.out⟩
 · obtain ⟨m, rfl⟩ : ∃ m : Nat, z = m := ⟨z.toNat, by omega⟩
   have h1I : ¬ (80 : Int) < (n : Int) := by omega
   have h2I : ¬ (m : Int) < 0 := by omega
   have h3I : ¬ (40 : Int) < (m : Int) := by omega
   have h80 : n ≤ 80 := by omega
   have hm40 : m ≤ 40 := by omega
   have hnew : ∀ W, Tab W → Calls Tryz.prog 14 #[.int .i64 64] W fun e w' => ∃ sb qb c, e = .returned (.pointer (some ⟨sb, 0, none⟩)) ∧ W.heap.size ≤ sb ∧ W.heap.size ≤ qb ∧ Below W.heap.size W w' ∧ Sto w' sb qb 64 c (-1) (bnew 64 3) := fun W h => newT_any 64 W h (by omega) (by omega)
   have hzer := fun W => refZeros_any m W (by omega)
   have hmk : ∀ W : World, (Instr.makeMap 60 none).run Tryz.prog W = .ok (.map (some W.heap.size)) (W.alloc (.map #[] 0)) := fun W => run_makeMap _ W
   have Hnew := Lib.hid hnew
   have Hzer := Lib.hid hzer
   clear hnew hzer hlong
   go_enter Tryz.func8, Tryz.ntmps8
   go_wp2_with fail
   with_reducible refine (Hal.out _ Ht.out).mono ?_
   rintro e wz ⟨rfl, hbz⟩
   have Tz := Lib.hid (Ht.out.below hbz)
   have Bz0 := Lib.hid hbz
   clear hbz
   go_wp2_with fail
   with_reducible refine (Hnew.out _ Tz.out).mono ?_
   rintro e w1 ⟨sb, qb, c, rfl, hsb, hqb, hb1, hs1⟩
   have T1 := Lib.hid (Tz.out.below hb1)
   have S1 := Lib.hid hs1
   have B1 := Lib.hid (below_base Bz0.out Bz0.out.size hb1)
   clear hs1 hb1 Hnew
   go_wp2_with fail
   with_reducible refine (newG_any w w1 64 sb qb c (bnew 64 3) (pgNew 64) T1.out S1.out (fun i _ => bnew_shows 64 i) B1.out).mono ?_
   rintro e w2 ⟨gb, mb, rfl, hgv, hgb, hmb, hb2⟩
   have S2 : Hid (St w w2 gb mb sb qb c 64 (pgNew 64) 0 t00 (fmtL 64) [] (-1)) := Lib.hid ⟨hgv, hs_new 64 (by omega) (by omega)⟩
   have B2 := Lib.hid (below_base B1.out B1.out.size hb2)
   have hob : w.heap.size ≤ gb ∧ w.heap.size ≤ mb := ⟨hgv.ord.1, hgv.ord.2.1⟩
   obtain ⟨f0, hf0⟩ := free_ex S2.out
   have hfr := free_at S2.out hf0
   have F0 : Hid (f0 + 2 + 1 = 64) := Lib.hid hf0
   clear hgv hb2 hsb hqb hgb hmb hf0
   go_wp2_with fail
   with_reducible refine hfr.mono ?_
   rintro e w3 ⟨rfl, hb3, st3⟩
   have S3 := Lib.hid st3
   have B3 := Lib.hid (below_base B2.out B2.out.size hb3)
   have hz3 := Hzer.out w3
   clear hfr hb3 st3 S2 B2
   go_wp2_with fail
   with_reducible refine hz3.mono ?_
   rintro e w4 ⟨rfl, hb4⟩
   have S4 := Lib.hid (S3.out.below hb4)
   have B4 := Lib.hid (below_base B3.out B3.out.size hb4)
   obtain ⟨ZV, hZV⟩ : ∃ Z, Z = str (zs m) := ⟨_, rfl⟩
   obtain ⟨f, hf⟩ : ∃ f : List UInt8 → List UInt8, ∀ k, f k = zs m := ⟨fun _ => zs m, fun _ => rfl⟩
   have HFV : Hid ((∀ k, str (f k) = ZV) ∧ ∀ k, (f k).length ≤ 40) := Lib.hid ⟨fun k => by rw [hf, hZV], fun k => by rw [hf, zs_len]; exact hm40⟩
   rw [← hZV]
   clear hz3 hb4 S3 B3 hZV hf Hzer
   go_wp2_with fail
   go_loopg [46] n (fun g v46 wr => ∃ (k D : Nat) (t : Tri) (ml : List UInt8) (pg : Nat → Pag) (J : List (List UInt8)), v46 = .int .i64 (k : Nat) ∧ g + k = n ∧ Hid (Tg t f J) ∧ Hid (∀ q, q ∈ J ↔ ∃ i, i < k ∧ q = T i) ∧ Hid (∀ i, i < k → keyOk (T i)) ∧ Hid (St w wr gb mb sb qb c 64 pg D t ml [] (-1)) ∧ Hid (Below w.heap.size w wr))
   case atStart => exact ⟨0, 0, t00, fmtL 64, pgNew 64, [], rfl, by omega, Lib.hid ⟨Kv.new _, tight00, ev00⟩, Lib.hid (fun q => by simp), Lib.hid (fun i hi => absurd hi (Nat.not_lt_zero i)), S4, B4⟩
   case round =>
    clear S4 B4 S1 B1 T1 Tz Bz0
    obtain ⟨k, D, t, ml, pg, J, rfl, hk, V1, I1, K1, S5, B5⟩ := hrel
    by_cases hlt : k < n
    · have hkI : (k : Int) < (n : Int) := by omega
      have i1 : IntKind.i64.wrap ((k : Int) + 1) = (k : Int) + 1 := IntWalk.i64_in _ (by omega)
      obtain ⟨kb, ko, hA, hkb, hc⟩ := HT.out.2 (by omega)
      subst hA
      have cK := (B5.out.cell hkb).trans (hc k hlt)
      have lK := Nat.lt_of_lt_of_le hkb B5.out.size
      have hkey := fun W => key_any (T k) W
      have hset := fun (hko : keyOk (T k)) W (hW : St w W gb mb sb qb c 64 pg D t ml [] (-1)) => shr_set w W gb mb sb qb c D pg t ml f J (T k) hW V1.out hko (HFV.out.2 _)
      obtain ⟨U, hU⟩ : ∃ U, U = str (T k) := ⟨_, rfl⟩
      rw [← hU] at cK
      simp only [← hU, HFV.out.1] at hkey hset
      have Hkey := Lib.hid hkey
      have Hset := Lib.hid hset
      clear hU hc hkey hset
      go_wp2_with fail
      with_reducible refine (Hkey.out _).mono ?_
      rintro e w6 ⟨rfl, rfl⟩
      by_cases hko : keyOk (T k)
      · rw [decide_eq_true hko]
        have hst := Hset.out hko _ S5.out
        have HKO := Lib.hid hko
        clear Hset hko
        go_wp2_with fail
        with_reducible refine hst.mono ?_
        rintro e w7 ⟨E, rfl, wk7, hor⟩
        have B7 := Lib.hid (below_keep B5.out B5.out.size wk7.keep (by rintro i (rfl | rfl) <;> omega))
        clear hst cK lK wk7
        rcases hor with ⟨rfl, pg', D', t', ml', st7, tg7⟩ | rfl
        · have S7 := Lib.hid st7
          have V7 := Lib.hid tg7
          have I7 : Hid (∀ q, q ∈ T k :: J ↔ ∃ i, i < k + 1 ∧ q = T i) := Lib.hid (fun q => by
           rw [List.mem_cons, I1.out q]
           constructor
           · rintro (rfl | ⟨i, h1, h2⟩)
             · exact ⟨k, by omega, rfl⟩
             · exact ⟨i, by omega, h2⟩
           · rintro ⟨i, h1, h2⟩
             by_cases e : i = k
             · subst e; exact .inl h2
             · exact .inr ⟨i, by omega, h2⟩)
          have K7 : Hid (∀ i, i < k + 1 → keyOk (T i)) := Lib.hid (fun i hi => by
           by_cases e : i = k
           · subst e; exact HKO.out
           · exact K1.out i (by omega))
          clear st7 tg7 S5 B5 V1 I1 K1
          go_wp2_with fail
          go_roundg (gk - 1)
          case measure => omega
          case rel => exact ⟨k + 1, D', t', ml', pg', T k :: J, by go_num, by omega, V7, I7, K7, S7, B7⟩
        · go_wp2_with fail
          go_ret
          exact ⟨rfl, B7.out⟩
      · rw [decide_eq_false hko]
        clear Hset hko
        go_wp2_with fail
        go_ret
        exact ⟨rfl, B5.out⟩
    · have hkn : ¬ (k : Int) < (n : Int) := by omega
      obtain rfl : k = n := by omega
      have TS := Lib.hid (TSet.made wr)
      have BA := below_al (Below.refl _ wr) (.map #[] 0)
      have S6 := Lib.hid (S5.out.below BA)
      have B6 := Lib.hid (below_base B5.out B5.out.size BA)
      have HB0 : Hid (gb < wr.heap.size ∧ mb < wr.heap.size ∧ sb < wr.heap.size ∧ qb < wr.heap.size ∧ gtab < wr.heap.size ∧ w.heap.size ≤ wr.heap.size) := Lib.hid (by
       have h1 := S5.out.gv.lt
       have h2 := S5.out.gv.ord
       have h4 := B5.out.size
       omega)
      obtain ⟨hb, hhb⟩ : ∃ hb, hb = wr.heap.size := ⟨_, rfl⟩
      rw [← hhb] at TS HB0
      clear BA hlt Hal Ht S5 B5
      go_wp2_with fail
      rw [← hhb]
      clear hhb hmk
      go_loopg [66] k (fun g v66 wr => ∃ (j D : Nat) (t : Tri) (ml : List UInt8) (pg : Nat → Pag) (J2 : List (List UInt8)) (S : List UInt8 → Bool), v66 = .int .i64 (j : Nat) ∧ g + j = k ∧ Hid (Tg t f J2) ∧ Hid (∀ q, q ∈ J2 ↔ q ∈ J ∧ ∀ i, i < j → q ≠ T i) ∧ Hid (TSet wr hb S j) ∧ Hid (∀ q, S q = true ↔ ∃ i, i < j ∧ q = T i) ∧ Hid (0 < j → D = t.height) ∧ Hid (St w wr gb mb sb qb c 64 pg D t ml [] (-1)) ∧ Hid (Below w.heap.size w wr))
      case atStart => exact ⟨0, D, t, ml, pg, J, fun _ => false, rfl, by omega, V1, Lib.hid (fun q => ⟨fun h => ⟨h, fun i hi => absurd hi (Nat.not_lt_zero i)⟩, fun h => h.1⟩), TS, Lib.hid (fun q => by simp), Lib.hid (fun h => absurd h (Nat.lt_irrefl 0)), S6, B6⟩
      case round =>
       clear V1 TS S6 B6
       obtain ⟨j, D2, t2, ml2, pg2, J2, S, rfl, hj, V2, I2, TS2, C2, D2h, S7, B7⟩ := hrel
       by_cases hlt2 : j < k
       · have hjI : (j : Int) < (k : Int) := by omega
         have i1 : IntKind.i64.wrap ((j : Int) + 1) = (j : Int) + 1 := IntWalk.i64_in _ (by omega)
         obtain ⟨kb, ko, hA, hkb, hc⟩ := HT.out.2 (by omega)
         subst hA
         have cK := (B7.out.cell hkb).trans (hc j hlt2)
         have lK := Nat.lt_of_lt_of_le hkb B7.out.size
         have hsz := HT.out.1 j hlt2
         obtain ⟨wm, hrun, ts8, hgm⟩ := TS2.out.put (T j) hsz (by omega)
         have hlook := TS2.out.look (T j) hsz
         have KM := Keep.grown (S := fun i => i = hb) hgm (fun y hy => by injection hy with hy; exact hy.symm)
         have S8 : Hid (St w wm gb mb sb qb c 64 pg2 D2 t2 ml2 [] (-1)) := Lib.hid ⟨S7.out.gv.keep KM (by rintro i rfl; have := HB0.out; omega), S7.out.hs⟩
         have B8 := Lib.hid (below_keep B7.out B7.out.size KM (by rintro i rfl; have := HB0.out; omega))
         have TS8 := Lib.hid ts8
         have C8 : Hid (∀ q, (decide (q = T j) || S q) = true ↔ ∃ i, i < j + 1 ∧ q = T i) := Lib.hid (fun q => by
          rw [Bool.or_eq_true, decide_eq_true_eq, C2.out q]
          constructor
          · rintro (rfl | ⟨i, h1, h2⟩)
            · exact ⟨j, by omega, rfl⟩
            · exact ⟨i, by omega, h2⟩
          · rintro ⟨i, h1, h2⟩
            by_cases e : i = j
            · subst e; exact .inl h2
            · exact .inr ⟨i, by omega, h2⟩)
         have I8 : Hid (∀ q, q ∈ J2.filter (fun q => !(q == T j)) ↔ q ∈ J ∧ ∀ i, i < j + 1 → q ≠ T i) := Lib.hid (fun q => by
          rw [List.mem_filter, I2.out q]
          constructor
          · rintro ⟨⟨h1, h2⟩, h3⟩
            refine ⟨h1, fun i hi => ?_⟩
            by_cases e : i = j
            · subst e; simpa using h3
            · exact h2 i (by omega)
          · rintro ⟨h1, h2⟩
            exact ⟨⟨h1, fun i hi => h2 i (by omega)⟩, by simpa using h2 j (by omega)⟩)
         have hin : T j ∈ J := (I1.out _).2 ⟨j, hlt2, rfl⟩
         obtain ⟨E, hEq⟩ : ∃ E : Int, E = if S (T j) = true then 3 else 0 := ⟨_, rfl⟩
         have hcut := fun W (hW : St w W gb mb sb qb c 64 pg2 D2 t2 ml2 [] (-1)) => shr_cut w W gb mb sb qb c D2 pg2 t2 ml2 f J2 (T j) hW V2.out (K1.out j hlt2) E (by
          by_cases hs : S (T j) = true
          · rw [if_pos hs] at hEq
            refine .inr ⟨fun h => ?_, hEq⟩
            obtain ⟨i, h1, h2⟩ := (C2.out _).1 hs
            exact ((I2.out _).1 h).2 i h1 h2
          · rw [if_neg hs] at hEq
            refine .inl ⟨(I2.out _).2 ⟨hin, fun i hi e => hs ((C2.out _).2 ⟨i, hi, e⟩)⟩, hEq⟩)
         have hD8 : Hid (T j ∉ J2 → 0 < j) := Lib.hid (fun h => by
          refine Nat.pos_of_ne_zero fun h0 => h ((I2.out _).2 ⟨hin, fun i hi => by omega⟩))
         obtain ⟨U, hU⟩ : ∃ U, U = str (T j) := ⟨_, rfl⟩
         rw [← hU] at cK hrun hlook
         simp only [← hU] at hcut
         have Hcut := Lib.hid hcut
         have HEq := Lib.hid hEq
         clear hU hc hcut ts8 hgm KM hin hsz hEq
         go_upto_if 72 with fail
         go_cut [15] (fun v15 V => v15 = .int .i64 E ∧ V = wr)
         case first =>
          rcases hs : S (T j) with _ | _
          · have hE0 : E = 0 := by have := HEq.out; rw [hs] at this; exact this
            subst hE0
            rw [hs] at hlook
            clear hs
            go_wp2_with fail
            go_meet
            exact ⟨rfl, rfl⟩
          · have hE3 : E = 3 := by have := HEq.out; rw [hs] at this; exact this
            subst hE3
            rw [hs] at hlook
            clear hs
            go_wp2_with fail
            go_meet
            exact ⟨rfl, rfl⟩
         case rest =>
          obtain ⟨rfl, rfl⟩ := hcut
          have hct := Hcut.out wm S8.out
          have hEE : (E != E) = false := by simp
          clear hlook cK lK S7 B7 TS2 V2 I2 C2
          go_wp2_with fail
          with_reducible refine hct.mono ?_
          rintro e w9 ⟨rfl, ⟨pg', D', t', ml', st9, tg9, hd9⟩, wk9⟩
          have hck := kv_check w w9 gb mb sb qb c D' pg' t' ml' f _ st9 tg9.kv
          have HS9 := Lib.hid st9.hs
          have V9 := Lib.hid tg9
          have TS9 := Lib.hid (TS8.out.block (wk9.keep.block _ TS8.out.lt (fun h => by have := HB0.out; omega)))
          have B9 := Lib.hid (below_keep B8.out B8.out.size wk9.keep (by rintro i (rfl | rfl) <;> omega))
          have D9 : Hid (0 < j + 1 → D' = t'.height) := Lib.hid (fun _ => by
           rcases hd9 with h | ⟨h1, h2, h3⟩
           · exact h
           · rw [h2, h3]; exact D2h.out (hD8.out h1))
          clear st9 tg9 hd9 wk9 hct TS8 S8 B8 D2h
          go_wp2_with fail
          with_reducible refine hck.mono ?_
          rintro e w10 ⟨rfl, st10, hb10⟩
          have S10 := Lib.hid st10
          have TS10 := Lib.hid (TS9.out.below hb10)
          have B10 := Lib.hid (below_base B9.out B9.out.size hb10)
          clear hck st10 hb10 TS9 B9
          go_wp2_with fail
          go_roundg (gk - 1)
          case measure => omega
          case rel => exact ⟨j + 1, D', t', ml', pg', _, _, by go_num, by omega, V9, I8, TS10, C8, D9, S10, B10⟩
       · have hjn : ¬ (j : Int) < (k : Int) := by omega
         obtain rfl : j = k := by omega
         have V0 : Hid (Tg t2 f []) := Lib.hid (by
          have e : J2 = [] := List.eq_nil_iff_forall_not_mem.2 (fun q hq => by
           obtain ⟨h1, h2⟩ := (I2.out q).1 hq
           obtain ⟨i, h3, h4⟩ := (I1.out q).1 h1
           exact h2 i h3 h4)
          rw [← e]; exact V2.out)
         have hgone := all_gone V0.out.tight V0.out.ev (V0.out.kv.none S7.out.hs.tb)
         have F7 : Hid (f0 + 2 + (numsF t2.leaves).length = 64) := Lib.hid (by rw [hgone.2]; exact F0.out)
         have hdump := kv_dump0 w wr gb mb sb qb c D2 pg2 t2 ml2 f S7.out V0.out.kv
         have HG := Lib.hid hgone.1
         clear hgone
         by_cases hn0 : j = 0
         · subst hn0
           clear hlt2 V2 I2 I1 K1 HT TS2 C2 D2h HFV
           go_wp2_with fail
           with_reducible refine hdump.mono ?_
           rintro e w8 ⟨A8, c8, rfl, st8, hb8⟩
           have B8 := Lib.hid (below_base B7.out B7.out.size hb8)
           clear st8 hb8 hdump S7 B7
           go_wp2_with fail
           go_ret
           exact ⟨rfl, B8.out⟩
         · have hn0I : ¬ (j : Int) = 0 := by omega
           have hn0b : ((j : Int) == 0) = false := by simpa using hn0I
           have hD0 : D2 = 0 := by rw [D2h.out (by omega), HG.out]
           subst hD0
           have hfr := fun W (hW : St w W gb mb sb qb c 64 pg2 0 t2 ml2 [] (-1)) => free_at hW F7.out
           have hdep : ∀ W, St w W gb mb sb qb c 64 pg2 0 t2 ml2 [] (-1) → Calls Tryz.prog 30 #[.pointer (some ⟨gb, 0, none⟩)] W fun e w' => e = .returned (.int .i64 0) ∧ GV w w' gb mb sb qb c 64 pg2 (-1 + ((numsF t2.leaves).length : Int)) ∧ Rk w.heap.size W w' := fun W hW => depth_ok w W gb mb sb qb c 64 0 pg2 _ t2 hW.gv hW.hs.tb
           have Hfr := Lib.hid hfr
           have Hdep := Lib.hid hdep
           have HS7 := Lib.hid S7.out.hs
           clear hfr hdep hlt2 V2 I2 I1 K1 HT TS2 C2 D2h HFV
           go_wp2_with fail
           with_reducible refine hdump.mono ?_
           rintro e w8 ⟨A8, c8, rfl, st8, hb8⟩
           have hd := Hdep.out _ st8
           have B8 := Lib.hid (below_base B7.out B7.out.size hb8)
           clear st8 hb8 hdump S7 B7
           go_wp2_with fail
           with_reducible refine hd.mono ?_
           rintro e w9 ⟨rfl, g9, k9⟩
           have hfr := Hfr.out _ ⟨g9, HS7.out⟩
           have B9 := Lib.hid (below_base B8.out B8.out.size k9.bel)
           clear g9 k9 hd B8
           go_wp2_with fail
           with_reducible refine hfr.mono ?_
           rintro e w10 ⟨rfl, hb10, _⟩
           have B10 := Lib.hid (below_base B9.out B9.out.size hb10)
           clear hfr hb10 B9
           go_wp2_with fail
           go_ret
           exact ⟨rfl, B10.out⟩
theorem shr_law (A : Option Addr) (n cp : Nat) (Tx : Nat → ByteArray) (z : Int) (w : World) (ht : Tab w) (hn64 : n ≤ maxLen) (hs : ∀ j, j < n → (Tx j).size ≤ maxLen) (hT : 0 < n → ∃ b off, A = some ⟨b, off, none⟩ ∧ b < w.heap.size ∧ ∀ j, j < n → w.cell? ⟨b, off + j, none⟩ = some (.string (Tx j))) :
 Calls Tryz.prog 8 #[.slice A n cp, .int .i64 z] w fun e w' => e = .returned (.bool true) ∧ Below w.heap.size w w' :=
 shr_any A n cp z (fun j => (Tx j).data.toList) w ht hn64 ⟨fun j hj => by rw [← str_of]; exact hs j hj, fun h0 => by
  obtain ⟨b, off, h1, h2, h3⟩ := hT h0
  exact ⟨b, off, h1, h2, fun j hj => by rw [← str_of]; exact h3 j hj⟩⟩
end Go.Proofs.YtijhamllnnilbaaGreatDoor.Ha
