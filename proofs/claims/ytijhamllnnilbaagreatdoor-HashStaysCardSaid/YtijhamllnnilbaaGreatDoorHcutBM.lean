/- The contract of hash.Cut of a key that is there, nothing shrinking. -/
import Derived.Test.YtijhamllnnilbaaGreatDoorP24
namespace Go.Proofs.YtijhamllnnilbaaGreatDoor.Ha
open Go.RowKit Go.Proofs.YtijhamllnnilbaaGreatDoor.Mem Go.Proofs.YtijhamllnnilbaaGreatDoor.Pg Go.Proofs.YtijhamllnnilbaaGreatDoor.Kp Go.Proofs.YtijhamllnnilbaaGreatDoor.Sp Go.Proofs.YtijhamllnnilbaaGreatDoor.Gr
set_option linter.unusedSimpArgs false
set_option linter.unusedVariables false
theorem St.below {w0 w w' : World} {gb mb sb qb c n D : Nat} {pg : Nat → Pag} {t : Tri} {ml : List UInt8} {X : List Nat} {tk0 : Int} (h : St w0 w gb mb sb qb c n pg D t ml X tk0) (k : Below w.heap.size w w') : St w0 w' gb mb sb qb c n pg D t ml X tk0 := ⟨h.gv.below k, h.hs⟩
set_option maxRecDepth 100000 in
set_option maxHeartbeats 4000000 in
theorem cut_stay_okX (w0 w : World) (gb mb sb qb c n D : Nat) (pg : Nat → Pag) (t : Tri) (ml : List UInt8) (X : List Nat) (tk0 : Int) (key : List UInt8) (h : St w0 w gb mb sb qb c n pg D t ml X tk0) (hk : keyOk key) (hh : has key (t.at' (sumF key)).cells) :
 Calls Tryz.prog 32 #[.pointer (some ⟨gb, 0, none⟩), .string (str key), .bool false] w fun e w' =>
  e = .returned (.int .i64 0) ∧ (∃ pg', St w0 w' gb mb sb qb c n pg' D (cutT key t) ml X tk0 ∧ SameX X pg pg') ∧ Wk w0.heap.size gb mb w w' := by
 have hkey := fun W => key_any key W
 have hopen := open_ok w0 w gb mb sb qb c n D pg _ t h.gv h.hs.tb
 have hm := t.at_mem (sumF key)
 have hl := hk.2
 have hfits := h.hs.tb.fits _ hm
 have hlen := (h.hs.tb.chn h.gv.n64 (sumF key)).len
 have hLl : ((t.at' (sumF key)).pags (t.dep (sumF key))).length = (t.at' (sumF key)).pgs.length := by unfold Lf.pags; exact pagsF_len ..
 have hpos : 0 < (t.at' (sumF key)).pgs.length := Nat.succ_pos _
 have hgl := h.gv.lt
 have hgb := h.gv.base
 have hw0 : w0.heap.size ≤ w.heap.size := by omega
 have hbuck := fun W tb (hW : GV w0 W gb mb sb qb c n pg (tk0 + ((numsF t.leaves).length : Int))) (ht) (hge) => bucket_ok w0 W gb mb sb qb c n D tb pg _ t key hW h.hs.tb (by omega) ht hge
 have hfind := fun W C cb (hc : Ch C W cb gb ((t.at' (sumF key)).pags (t.dep (sumF key)))) =>
  (cfind_any W C cb gb _ (t.at' (sumF key)).pgs key hc (bkL_pags 3 _ (.inl rfl) _ hfits) (by omega) (by omega)).mono (R' := fun e w' => (∃ (j m : Nat) (cs : List Cel) (y : Cel), e = .returned (.tuple #[.int .i64 (j : Nat), y.v]) ∧ Hid ((t.at' (sumF key)).pgs[j]? = some (m, cs) ∧ has key cs)) ∧ Below W.heap.size W w') (fun e w' ⟨h1, h2⟩ => And.intro (by
   rcases h1.res hfits (h.hs.tb.keys _ hm) with ⟨j, m, cs, y, hj, hc, _, _, he⟩ | ⟨hno, _, _⟩
   · exact ⟨j, m, cs, y, he, Lib.hid ⟨hj, hc⟩⟩
   · exact absurd hh hno) h2)
 have hcut := fun W cb C (hW : GV w0 W gb mb sb qb c n pg (tk0 + ((numsF t.leaves).length : Int))) (hc : Ch C W cb gb ((t.at' (sumF key)).pags (t.dep (sumF key)))) (hC : w0.heap.size ≤ C ∧ gb < C ∧ mb < C) (j m : Nat) (cs : List Cel) (hj : (t.at' (sumF key)).pgs[j]? = some (m, cs)) (hkc : has key cs) =>
  show Calls Tryz.prog 55 #[.pointer (some ⟨cb, 0, none⟩), .int .i64 j, .string (str key)] W fun e w' => e = .returned (.int .i64 0) ∧ (∃ pg', St w0 w' gb mb sb qb c n pg' D (cutT key t) ml X tk0 ∧ SameX X pg pg') ∧ Ck w0.heap.size gb mb C W w' from by
   have hjl : j < (t.at' (sumF key)).pgs.length := (List.getElem?_eq_some_iff.1 hj).1
   obtain ⟨⟨m', q⟩, hq⟩ : ∃ q, ((t.at' (sumF key)).pags (t.dep (sumF key)))[j]? = some q := ⟨_, List.getElem?_eq_getElem (by omega)⟩
   obtain ⟨cs', hj', hbk⟩ := (bkL_pags 3 (t.dep (sumF key) : Nat) (.inl rfl) (t.at' (sumF key)).pgs hfits).at' j m' q hq
   rw [hj] at hj'
   injection hj' with hj'
   injection hj' with h1 h2
   subst h1 h2
   have hmn := (h.hs.tb.rng m (numsF_mem hm (List.mem_map.2 ⟨(m, cs), List.mem_of_getElem? hj, rfl⟩))).2
   have hqok : q.ok := by
    have h3 := h.hs.tb.shown (sumF key) _ (List.mem_of_getElem? hq)
    simp only at h3
    rw [← h3]; exact hW.ok hmn
   refine (ccut_ok w0 W gb mb sb qb c n cb C j m pg _ _ q cs key hW hc hC hq hbk hkc (by omega) hmn hqok).mono ?_
   rintro e w' ⟨rfl, _, hg, hck, _⟩
   exact ⟨rfl, ⟨_, set_st (cutT_len _ _) (h.hs.cut key j m q cs hj hq hkc).1 hg, (SameX.refl _ _).upd (h.hs.tabX hq) _⟩, hck⟩
 rw [decide_eq_true hk] at hkey
 obtain ⟨U, hU⟩ : ∃ U, U = str key := ⟨_, rfl⟩
 rw [← hU] at hkey hbuck hfind hcut ⊢
 have HB := Lib.hid hbuck
 have HF := Lib.hid hfind
 have HC := Lib.hid hcut
 clear hU h hm hbuck hfind hcut hh hfits hlen hLl hpos hk
 go_enter Tryz.func32, Tryz.ntmps32
 go_wp2_with fail
 with_reducible refine (hkey _).mono ?_
 rintro e w1 ⟨rfl, rfl⟩
 go_wp2_with fail
 with_reducible refine hopen.mono ?_
 rintro e w2 ⟨tb, rfl, htb, ht, g2, k2⟩
 have hbk := HB.out w2 tb g2 ht (by omega)
 have K2 := Lib.hid k2
 clear g2 k2 ht hkey hopen
 go_wp2_with fail
 with_reducible refine hbk.mono ?_
 rintro e w3 ⟨cb, rfl, hch, g3, k3⟩
 have hfd := HF.out w3 _ cb hch
 have CH3 := Lib.hid hch
 have K3 := Lib.hid (K2.out.trans k3)
 have G3 := Lib.hid g3
 have hs2 := K2.out.size
 clear g3 k3 hch hbk
 go_wp2_with fail
 with_reducible refine hfd.mono ?_
 rintro e w4 ⟨⟨j, m, cs, y, rfl, HJ⟩, hb4⟩
 have B4 := Lib.hid (below_al hb4 (celO (str y.key) (str y.val) y.blob y.size))
 have hct := HC.out _ cb w2.heap.size (G3.out.rk B4.out) (CH3.out.below B4.out) (by omega) j m cs HJ.out.1 HJ.out.2
 simp only [Cel.v]
 have K4 := Lib.hid (K3.out.below B4.out)
 clear hb4 hfd
 go_wp2_with fail
 with_reducible refine hct.mono ?_
 rintro e w5 ⟨rfl, hst, hck⟩
 have HS := Lib.hid hst
 have HW := Lib.hid (Wk.ck (Wk.of_rk (gb := gb) (mb := mb) K4.out) (hck.mono (by have := K4.out.size; omega)))
 clear hst hck hct
 go_wp2_with fail
 go_ret
 exact ⟨rfl, HS.out, HW.out⟩
theorem cut_stay_ok (w0 w : World) (gb mb sb qb c n D : Nat) (pg : Nat → Pag) (t : Tri) (ml : List UInt8) (X : List Nat) (tk0 : Int) (key : List UInt8) (h : St w0 w gb mb sb qb c n pg D t ml X tk0) (hk : keyOk key) (hh : has key (t.at' (sumF key)).cells) :
 Calls Tryz.prog 32 #[.pointer (some ⟨gb, 0, none⟩), .string (str key), .bool false] w fun e w' =>
  e = .returned (.int .i64 0) ∧ (∃ pg', St w0 w' gb mb sb qb c n pg' D (cutT key t) ml X tk0) ∧ Wk w0.heap.size gb mb w w' :=
 (cut_stay_okX w0 w gb mb sb qb c n D pg t ml X tk0 key h hk hh).mono fun _ _ ⟨h1, ⟨pg', h2, _⟩, h3⟩ => ⟨h1, ⟨pg', h2⟩, h3⟩
end Go.Proofs.YtijhamllnnilbaaGreatDoor.Ha
