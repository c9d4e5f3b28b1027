/- Lemmas of the claim, in their order:
- The contract of hash's pages of a value.
- The contracts of hash's Value, Blobs.
-/
import Derived.Test.YtijhamllnnilbaaGreatDoorU22
import Derived.Test.YtijhamllnnilbaaGreatDoorU24
import Derived.Deep.LoopGhost
set_option linter.unusedVariables false
set_option linter.unusedSimpArgs false
namespace Go.Proofs.YtijhamllnnilbaaGreatDoor.Ha
open Go.RowKit Go.Proofs.YtijhamllnnilbaaGreatDoor.Mem Go.Proofs.YtijhamllnnilbaaGreatDoor.Pg Go.Proofs.YtijhamllnnilbaaGreatDoor.Kp Go.Proofs.YtijhamllnnilbaaGreatDoor.Sp Go.Proofs.YtijhamllnnilbaaGreatDoor.Gr
set_option linter.unusedSimpArgs false
set_option linter.unusedVariables false
theorem own_ne {w : World} {b1 b2 : Nat} {e1 e2 : TypeId} {s1 s2 n1 n2 : Nat} {v1 v2 : Value} {x1 x2 : List Value} (h1 : w.ownsRow b1 e1 s1 v1 n1 x1) (h2 : w.ownsRow b2 e2 s2 v2 n2 x2) (hne : e1 ≠ e2) : v1.ownBlock = none ∨ v1.ownBlock ≠ v2.ownBlock := by
  rcases h1.2 with ⟨h0, _⟩ | ⟨g, cap, cur, h0, _, hh, _⟩
  · exact .inl (by rw [h0]; rfl)
  · rcases h2.2 with ⟨k0, _⟩ | ⟨g', cap', cur', k0, _, kk, _⟩
    · exact .inr (by rw [h0, k0]; exact fun e => by cases e)
    · refine .inr (fun e => ?_)
      rw [h0, k0] at e
      injection e with e
      subst e
      rw [hh] at kk
      injection kk with kk
      injection kk with _ kk
      exact hne kk
theorem grown_blk {W w4 : World} {row : Option Nat} {k : Nat} {Y : Obj} (hg : W.grownBy w4 row) (hne : row ≠ some k) (h : W.heap[k]? = some Y) : w4.heap[k]? = some Y := by rw [hg.block k (lt_of_block h) hne.symm]; exact h
/-- The number behind the i-th of a value's pages. -/
def nxtN (l : List Nat) (i : Nat) : Nat := l.getD (i + 1) 0
/-- A cell's value v, in the pages l. -/
def BlobAt (n : Nat) (pg : Nat → Pag) (x : Cel) (v : List UInt8) (l : List Nat) : Prop :=
  (x.blob = 0 ∧ v = x.val ∧ l = []) ∨ (40 < v.length ∧ v.length ≤ 400 ∧ x.size = v.length ∧ l.length = Bl.pgN v.length ∧ x.blob = l.getD 0 0 ∧ (∀ m, m ∈ l → 2 ≤ m ∧ m < n) ∧ (∀ i m, l[i]? = some m → pg m = ⟨5, 0, (nxtN l i : Nat), Bl.body v i⟩) ∧ l.Nodup)
theorem BlobAt.nz {n : Nat} {pg : Nat → Pag} {x : Cel} {v : List UInt8} {l : List Nat} (h : BlobAt n pg x v l) : x.blob = l.getD 0 0 ∧ (∀ m, m ∈ l → 2 ≤ m ∧ m < n) ∧ (∀ i m, l[i]? = some m → pg m = ⟨5, 0, (nxtN l i : Nat), Bl.body v i⟩) ∧ (l ≠ [] → l.length = Bl.pgN x.size) := by
  rcases h with ⟨h1, h2, rfl⟩ | ⟨h1, h2, h3, h4, h5, h6, h7, _⟩
  · exact ⟨h1, fun m hm => by simp at hm, fun i m hm => by simp at hm, fun h => absurd rfl h⟩
  · exact ⟨h5, h6, h7, fun _ => by rw [h3]; exact h4⟩
set_option maxRecDepth 100000 in
set_option maxHeartbeats 4000000 in
theorem pages_ok (w0 w : World) (gb mb sb qb c n : Nat) (pg : Nat → Pag) (tk : Int) (x : Cel) (v : List UInt8) (l : List Nat) (h : GV w0 w gb mb sb qb c n pg tk) (hx : x.ok) (hb : BlobAt n pg x v l) :
    Calls Tryz.prog 76 #[.pointer (some ⟨gb, 0, none⟩), x.v] w fun e w' => ∃ A ca B cc, e = .returned (.tuple #[.slice A l.length ca, .slice B l.length cc, .int .i64 0]) ∧
      w'.ownsRow w.heap.size 113 4 (.slice A l.length ca) l.length (flatP (l.map pg)) ∧ w'.ownsRow w.heap.size 3 1 (.slice B l.length cc) l.length (natV l) ∧ GV w0 w' gb mb sb qb c n pg tk ∧ Rk w0.heap.size w w' := by
  obtain ⟨i0, hif, hz0, hz1, hz2⟩ := info_parts info_int'
  obtain ⟨i1, hig, hy0, hy1, hy2⟩ := info_parts info_page'
  have hrt := fun W => right_any x W
  rw [decide_eq_true hx] at hrt
  obtain ⟨hz, hm, hp, hl⟩ := hb.nz
  have hpl := fun W => Bl.blobPagesI_any (x.size : Int) W
  have hl2 : l.length ≤ 2 := by
    by_cases e : l = []
    · subst e; simp
    · rw [hl e]; exact Bl.pgN_le _
  obtain ⟨U1, hU1⟩ : ∃ U, U = str x.key := ⟨_, rfl⟩
  obtain ⟨U2, hU2⟩ : ∃ U, U = str x.val := ⟨_, rfl⟩
  obtain ⟨xb, hxb⟩ : ∃ b : Int, b = x.blob := ⟨_, rfl⟩
  obtain ⟨xz, hxz⟩ : ∃ b : Int, b = x.size := ⟨_, rfl⟩
  simp only [Cel.v] at hrt ⊢
  rw [← hU1, ← hU2, ← hxb, ← hxz] at hrt ⊢
  rw [← hxz] at hpl
  have EQ := Lib.hid (And.intro hxb hxz)
  have B0 := Lib.hid (below_al (Below.refl _ w) (celO U1 U2 xb xz))
  have z0 := heap_alloc_new w (celO U1 U2 xb xz)
  have cz := blk_cell z0
  have lz := lt_of_block z0
  have Z0 := Lib.hid z0
  have G0 := Lib.hid h
  have HM := Lib.hid hm
  have HPP := Lib.hid hp
  have HL := Lib.hid hl
  have HZ := Lib.hid hz
  have hw0 : w0.heap.size ≤ w.heap.size := by have := h.base; have := h.lt; omega
  clear hU1 hU2 hxb hxz h hx hb hm hp hl hz z0
  go_enter Tryz.func76, Tryz.ntmps76
  go_wp2_with fail
  with_reducible refine (hrt _).mono ?_
  rintro e w1 ⟨rfl, hb1⟩
  have z1 := blk_keep Z0.out hb1
  have cz1 := blk_cell z1
  have lz1 := lt_of_block z1
  have Z1 := Lib.hid z1
  have G1 := Lib.hid (G0.out.rk (below_tr B0.out hb1))
  have K1 : Hid (Rk w0.heap.size w w1) := Lib.hid (Rk.below (.of_below B0.out) hb1)
  clear hb1 z1 B0 Z0 cz lz hrt
  go_wp2_with fail
  go_loopg [7, 8, 9] (l.length + 1) (fun k v7 v8 v9 wr => ∃ j, k + j = l.length + 1 ∧ j ≤ l.length ∧ v9 = .int .i64 (l.getD j 0 : Nat) ∧ Hid (wr.ownsRow (w.heap.size + 1) 113 4 v7 j (flatP ((l.take j).map pg))) ∧ Hid (wr.ownsRow (w.heap.size + 1) 3 1 v8 j (natV (l.take j))) ∧
    Hid (GV w0 wr gb mb sb qb c n pg tk) ∧ Hid (Rk w0.heap.size w wr) ∧ Hid (wr.heap[w.heap.size]? = some (celO U1 U2 xb xz)))
  case atStart =>
    exact ⟨0, rfl, Nat.zero_le _, by rw [EQ.out.1, HZ.out], Lib.hid ⟨rfl, .inl ⟨rfl, rfl⟩⟩, Lib.hid ⟨rfl, .inl ⟨rfl, rfl⟩⟩, G1, K1, Z1⟩
  case round =>
    clear G1 K1 Z1 cz1 lz1
    obtain ⟨j, hkj, hj, rfl, P2, N2, G2, K2, Z2⟩ := hrel
    have cz2 := blk_cell Z2.out
    have lz2 := lt_of_block Z2.out
    obtain ⟨A7, c7, h7⟩ := own_slice P2.out
    obtain ⟨A8, c8, h8⟩ := own_slice N2.out
    subst h7 h8
    by_cases hlt : j < l.length
    · have hlj : l[j]? = some l[j] := List.getElem?_eq_getElem hlt
      have hgd : l.getD j 0 = l[j] := by rw [List.getD_eq_getElem?_getD, hlj]; rfl
      have hmj := HM.out _ (List.getElem_mem hlt)
      have hpj := HPP.out j _ hlj
      have hget := G2.out.getR l[j] hmj.2
      rw [hpj] at hget
      simp only [Pag.v] at hget
      obtain ⟨S, hS⟩ : ∃ S, S = str (Bl.body v j) := ⟨_, rfl⟩
      rw [← hS] at hget
      have hPN : Bl.pgI xz = l.length := by rw [EQ.out.2, Bl.pgI_nat, HL.out (fun e => by rw [e] at hlt; simp at hlt)]
      rw [hPN] at hpl
      rw [hgd]
      have hne : ((l[j] : Nat) : Int) ≠ 0 := by omega
      have hge : ¬ (l.length : Int) ≤ (j : Int) := by omega
      have hpst : flatP ((l.take (j + 1)).map pg) = flatP ((l.take j).map pg) ++ [.int .i64 5, .int .i64 0, .int .i64 (nxtN l j : Nat), .string S] := by
        rw [List.take_succ_eq_append_getElem hlt, List.map_append, flatP_append]
        simp [flatP, pcells, hpj, hS]
      have hnst := natV_step l j hlt
      have HPS := Lib.hid hpst
      have HNS := Lib.hid hnst
      clear hpj hmj hlj hgd hS hPN hpst hnst
      go_wp2_with fail
      with_reducible refine (hpl _).mono ?_
      rintro e w2 ⟨rfl, rfl⟩
      go_wp2_with fail
      with_reducible refine hget.mono ?_
      rintro e w3 ⟨rfl, g3, k3⟩
      have P3 := Lib.hid (k3.row P2.out (by omega))
      have N3 := Lib.hid (k3.row N2.out (by omega))
      have Z3 := Lib.hid (k3.blk Z2.out (by omega))
      have K3 := Lib.hid (K2.out.trans k3)
      have hw3 : w.heap.size + 1 ≤ w3.heap.size := lt_of_block Z3.out
      have p4 := heap_alloc_new w3 (pagO 5 0 (nxtN l j : Nat) S)
      have cp4 := blk_cell p4
      have PB4 := Lib.hid p4
      have o7 := (P3.out.alloc (pagO 5 0 (nxtN l j : Nat) S)).alloc (.cells #[.int .i64 5, .int .i64 0, .int .i64 (nxtN l j : Nat), .string S] 113)
      have o8 := (N3.out.alloc (pagO 5 0 (nxtN l j : Nat) S)).alloc (.cells #[.int .i64 5, .int .i64 0, .int .i64 (nxtN l j : Nat), .string S] 113)
      have B4 := Lib.hid (below_al (below_al K3.out.bel (pagO 5 0 (nxtN l j : Nat) S)) (.cells #[.int .i64 5, .int .i64 0, .int .i64 (nxtN l j : Nat), .string S] 113))
      clear g3 k3 p4 hget hpl cz2 lz2 P2 N2 G2 K2 Z2
      go_wp2_with (first
        | (at_builtin; refine wpList_append_own _ rfl (.tmp 34) (.tmp 36) _ rfl (w.heap.size + 1) 113 i1 (.agg #[.int .i64 0, .int .i64 0, .int .i64 0, .string ⟨#[]⟩]) 4 40 Tryz.underlying68 hig hy0 hy1 hy2 rfl (by decide) _ j (flatP ((l.take j).map pg)) rfl o7 ⟨w3.heap.size + 1, 0, none⟩ 1 1 [.int .i64 5, .int .i64 0, .int .i64 (nxtN l j : Nat), .string S] rfl rfl (cells_new _ _ (by simp) _ _) (by intro u hu; simp at hu; rcases hu with rfl | rfl | rfl | rfl <;> rfl) (by unfold maxLen; omega) (by omega) (by simp; omega) ?_; intro v7 w5 own5 grow5 _; have o8b := (o8.kept grow5 (own_ne o8 o7 (by decide))).alloc (.cells #[.int .i64 (l[j] : Nat)] 3); have s5 := grow5.size)
        | (at_builtin; refine wpList_append_own _ rfl (.tmp 38) (.tmp 40) _ rfl (w.heap.size + 1) 3 i0 (.int .i64 0) 1 8 Tryz.underlying45 hif hz0 hz1 hz2 rfl (by decide) _ j (natV (l.take j)) rfl o8b ⟨w5.heap.size, 0, none⟩ 1 1 [.int .i64 (l[j] : Nat)] rfl rfl (cells_one _ _ _) (by intro u hu; simp at hu; subst hu; rfl) (by unfold maxLen; omega) (by omega) (by simp at s5 ⊢; omega) ?_; intro v8 w6 own6 grow6 _; have q5 := grown_blk grow5 (fun e => by have := own_lt P3.out _ e; omega) (hal PB4.out); have q6 := grown_blk grow6 (fun e => by have := own_lt N3.out _ e; omega) (hal q5); have cq6 := blk_cell q6; have lq6 := lt_of_block q6))
      have o7b := own5.alloc (.cells #[.int .i64 (l[j] : Nat)] 3)
      have o7c := o7b.kept grow6 (own_ne o7b o8b (by decide))
      have B5 := below_grown (b := w5) B4.out (by simp; omega) (row_mono o7 (Nat.le_succ _)) grow5
      have B6 := below_grown (b := w6) (below_al B5 (.cells #[.int .i64 (l[j] : Nat)] 3)) (by simp at s5 ⊢; omega) (row_mono o8b (Nat.le_succ _)) grow6
      have z5 := keep_grown o7 grow5 (Nat.lt_succ_self _) (hal (hal Z3.out))
      have z6 := keep_grown o8b grow6 (Nat.lt_succ_self _) (hal z5)
      go_roundg (gk - 1)
      case measure => omega
      case rel => exact ⟨j + 1, by omega, hlt, rfl, Lib.hid (by rw [HPS.out]; exact o7c), Lib.hid (by rw [HNS.out]; exact own6), Lib.hid (G0.out.rk B6), Lib.hid (.of_below B6), Lib.hid z6⟩
    · have hjl : j = l.length := by omega
      subst hjl
      have hgd : l.getD l.length 0 = 0 := by rw [List.getD_eq_getElem?_getD, List.getElem?_eq_none (Nat.le_refl _)]; rfl
      rw [hgd]
      have p := P2.out
      have q := N2.out
      rw [List.take_length] at p q
      have PF := Lib.hid (row_mono p (Nat.le_succ _))
      have NF := Lib.hid (row_mono q (Nat.le_succ _))
      clear p q hgd P2 N2
      go_wp2_with fail
      go_ret3
      exact ⟨A7, c7, A8, c8, rfl, PF.out, NF.out, G2.out, K2.out⟩
end Go.Proofs.YtijhamllnnilbaaGreatDoor.Ha
namespace Go.Proofs.YtijhamllnnilbaaGreatDoor.Ha
open Go.RowKit Go.Proofs.YtijhamllnnilbaaGreatDoor.Mem Go.Proofs.YtijhamllnnilbaaGreatDoor.Pg Go.Proofs.YtijhamllnnilbaaGreatDoor.Kp Go.Proofs.YtijhamllnnilbaaGreatDoor.Sp Go.Proofs.YtijhamllnnilbaaGreatDoor.Gr
set_option linter.unusedSimpArgs false
set_option linter.unusedVariables false
def toI (l : List Nat) : List Int := l.map fun (m : Nat) => (m : Int)
theorem toI_getD (l : List Nat) (i : Nat) (h : i < l.length) : (toI l).getD i 0 = (l[i] : Nat) := by
  rw [List.getD_eq_getElem?_getD, toI, List.getElem?_map, List.getElem?_eq_getElem h]; rfl
theorem BlobAt.putOk {n : Nat} {pg : Nat → Pag} {x : Cel} {v : List UInt8} {l : List Nat} (h : BlobAt n pg x v l) (hb : x.blob ≠ 0) (h64 : n ≤ 64) : Bl.PutOk v (toI l) ∧ flatP (l.map pg) = Bl.rows v (toI l) l.length ∧ x.size = v.length := by
  rcases h with ⟨h1, _⟩ | ⟨h1, h2, h3, h4, h5, h6, h7, h8⟩
  · exact absurd h1 hb
  · have hlen : (toI l).length = l.length := by simp [toI]
    have hpn : 0 < Bl.pgN v.length := by unfold Bl.pgN; split <;> omega
    refine ⟨⟨by rw [hlen]; omega, by rw [hlen]; exact h4, fun i hi => ?_⟩, ?_, h3⟩
    · rw [hlen] at hi
      have h9 := h6 _ (List.getElem_mem hi)
      rw [Bl.OkAt, toI_getD l i hi]
      refine ⟨by omega, by omega, ?_⟩
      cases hc : ((toI l).take i).contains ((l[i] : Nat) : Int) with
      | false => rfl
      | true =>
        rw [List.contains_iff_mem] at hc
        obtain ⟨j, hj⟩ := List.mem_iff_getElem?.1 hc
        rw [List.getElem?_take] at hj
        split at hj
        · rename_i hji
          rw [toI, List.getElem?_map] at hj
          obtain ⟨m, hm, e⟩ := Option.map_eq_some_iff.1 hj
          have e' : m = l[i] := by omega
          have := (List.getElem?_inj (by omega) h8).1 (show l[j]? = l[i]? by rw [hm, e', List.getElem?_eq_getElem hi])
          omega
        · simp at hj
    · have key : ∀ j, j ≤ l.length → flatP ((l.take j).map pg) = Bl.rows v (toI l) j := fun j => by
        induction j with
        | zero => intro _; rfl
        | succ j ih =>
          intro hj
          rw [List.take_succ_eq_append_getElem (by omega), List.map_append, flatP_append, ih (by omega)]
          have hx := h7 j l[j] (List.getElem?_eq_getElem (by omega))
          have hnx : ((nxtN l j : Nat) : Int) = Bl.nextOf (toI l) j := by
            unfold Bl.nextOf nxtN
            rw [hlen]
            split
            · rename_i hlt
              rw [toI_getD l (j + 1) hlt, List.getD_eq_getElem?_getD, List.getElem?_eq_getElem hlt]; rfl
            · rw [List.getD_eq_getElem?_getD, List.getElem?_eq_none (by omega)]; rfl
          simp only [Bl.rows, Bl.pgRow, List.map_cons, List.map_nil, hx, flatP, List.flatMap_cons, List.flatMap_nil, List.append_nil, pcells, hnx]
      have := key l.length (Nat.le_refl _)
      rwa [List.take_length] at this
/-- blob.Get of a cell's pages. -/
theorem BlobAt.get {n : Nat} {pg : Nat → Pag} {x : Cel} {v : List UInt8} {l : List Nat} (h : BlobAt n pg x v l) (hb : x.blob ≠ 0) (h64 : n ≤ 64) (W : World) (B : Nat) (A : Option Addr) (ca : Nat)
    (ho : W.ownsRow B 113 4 (.slice A l.length ca) l.length (flatP (l.map pg))) :
    Calls Tryz.prog 77 #[.int .i64 (x.size : Int), .slice A l.length ca] W fun e w' => e = .returned (.tuple #[.string (str v), .bool true]) ∧ Below W.heap.size W w' := by
  obtain ⟨h1, h2, h3⟩ := h.putOk hb h64
  have hlen : (toI l).length = l.length := by simp [toI]
  rw [h2] at ho
  have hpos : 0 < l.length := by have := h1.1; omega
  have hle : l.length ≤ 2 := by have := h1.2.1; have := Bl.pgN_le v.length; omega
  obtain ⟨g, hA⟩ : ∃ g, A = some ⟨g, 0, none⟩ := by
    rcases ho.2 with ⟨_, h0⟩ | ⟨g, cap, cur, h0, _⟩
    · omega
    · injection h0 with h0; exact ⟨g, h0⟩
  subst hA
  have hp := Bl.pgs_own ho (by omega) (own_lt ho g rfl)
  have hgo := Bl.getOk_put h1
  have hga := Bl.got_put_all h1
  rw [hlen] at hgo hga
  rw [h3]
  refine (Bl.get_any _ _ _ ca _ W hp).mono ?_
  rintro e w' ⟨hres, hbel⟩
  rcases hres with ⟨_, he⟩ | ⟨hno, _⟩
  · refine ⟨?_, hbel⟩
    rw [he, show (Bl.putPg v (toI l) l.length).length = l.length by simp [Bl.putPg], hga]
  · exact absurd hgo hno
theorem BlobAt.nil {n : Nat} {pg : Nat → Pag} {x : Cel} {v : List UInt8} {l : List Nat} (hb : BlobAt n pg x v l) (h0 : x.blob = 0) : x.val = v ∧ l = [] := by
  rcases hb with ⟨_, h2, h3⟩ | ⟨h1, h2, h3, h4, h5, h6, _⟩
  · exact ⟨h2.symm, h3⟩
  · exfalso
    have hpn : 0 < Bl.pgN v.length := by unfold Bl.pgN; split <;> omega
    have h8 := h6 _ (List.getElem_mem (show 0 < l.length by omega))
    rw [List.getD_eq_getElem?_getD, List.getElem?_eq_getElem (show 0 < l.length by omega)] at h5
    simp at h5
    omega
set_option maxRecDepth 100000 in
set_option maxHeartbeats 4000000 in
theorem value_ok (w0 w : World) (gb mb sb qb c n : Nat) (pg : Nat → Pag) (tk : Int) (x : Cel) (v : List UInt8) (l : List Nat) (h : GV w0 w gb mb sb qb c n pg tk) (hx : x.ok) (hb : BlobAt n pg x v l) :
    Calls Tryz.prog 26 #[.pointer (some ⟨gb, 0, none⟩), x.v] w fun e w' => e = .returned (.tuple #[.string (str v), .int .i64 0]) ∧ GV w0 w' gb mb sb qb c n pg tk ∧ Rk w0.heap.size w w' := by
  have hpg := fun W (hW : GV w0 W gb mb sb qb c n pg tk) => pages_ok w0 W gb mb sb qb c n pg tk x v l hW hx hb
  have hget := fun hz W B A ca ho => hb.get hz h.n64 W B A ca ho
  have hval : x.blob = 0 → x.val = v := fun h0 => (hb.nil h0).1
  have hw0 : w0.heap.size ≤ w.heap.size := by have := h.base; have := h.lt; omega
  obtain ⟨U1, hU1⟩ : ∃ U, U = str x.key := ⟨_, rfl⟩
  obtain ⟨U2, hU2⟩ : ∃ U, U = str x.val := ⟨_, rfl⟩
  obtain ⟨xb, hxb⟩ : ∃ b : Int, b = x.blob := ⟨_, rfl⟩
  obtain ⟨xz, hxz⟩ : ∃ b : Int, b = x.size := ⟨_, rfl⟩
  simp only [Cel.v] at hpg ⊢
  rw [← hU1, ← hU2, ← hxb, ← hxz] at hpg ⊢
  rw [← hxz] at hget
  have B0 := Lib.hid (below_al (Below.refl _ w) (celO U1 U2 xb xz))
  have z0 := heap_alloc_new w (celO U1 U2 xb xz)
  have cz := blk_cell z0
  have lz := lt_of_block z0
  have Z0 := Lib.hid z0
  have hp1 := hpg _ (h.rk B0.out)
  have HG := Lib.hid hget
  have HV : Hid (xb = 0 → U2 = str v) := Lib.hid (fun e => by rw [hU2, hval (by omega)])
  have HB : Hid (xb ≠ 0 → x.blob ≠ 0) := Lib.hid (fun e e' => e (by rw [hxb, e']; rfl))
  clear hU1 hU2 hxb hxz h hx hb z0 hpg hget hval
  go_enter Tryz.func26, Tryz.ntmps26
  go_wp2_with fail
  with_reducible refine hp1.mono ?_
  rintro e w1 ⟨A, ca, B, cc, rfl, hP, hN, g1, k1⟩
  have z1 := k1.blk Z0.out hw0
  have cz1 := blk_cell z1
  have lz1 := lt_of_block z1
  have P1 := Lib.hid hP
  have G1 := Lib.hid g1
  have K1 := Lib.hid (Rk.trans (.of_below B0.out) k1)
  clear hP hN g1 k1 z1 cz lz hp1
  by_cases hb0 : xb = 0
  · have hU := HV.out hb0
    subst hb0
    go_wp2_with fail
    go_ret2
    exact ⟨rfl, G1.out, K1.out⟩
  · have hg := HG.out (HB.out hb0) w1 _ A ca P1.out
    go_wp2_with fail
    with_reducible refine hg.mono ?_
    rintro e w2 ⟨rfl, hb2⟩
    have G2 := Lib.hid (G1.out.rk hb2)
    have K2 := Lib.hid (K1.out.below hb2)
    clear hb2 hg cz1 lz1
    go_wp2_with fail
    go_ret2
    exact ⟨rfl, G2.out, K2.out⟩
set_option maxRecDepth 100000 in
set_option maxHeartbeats 4000000 in
theorem blobs_ok (w0 w : World) (gb mb sb qb c n : Nat) (pg : Nat → Pag) (tk : Int) (x : Cel) (v : List UInt8) (l : List Nat) (h : GV w0 w gb mb sb qb c n pg tk) (hx : x.ok) (hb : BlobAt n pg x v l) :
    Calls Tryz.prog 27 #[.pointer (some ⟨gb, 0, none⟩), x.v] w fun e w' => (∃ B cc, e = .returned (.tuple #[.slice B l.length cc, .int .i64 0]) ∧ w'.ownsRow w.heap.size 3 1 (.slice B l.length cc) l.length (natV l)) ∧ GV w0 w' gb mb sb qb c n pg tk ∧ Rk w0.heap.size w w' := by
  have hpg := fun W (hW : GV w0 W gb mb sb qb c n pg tk) => pages_ok w0 W gb mb sb qb c n pg tk x v l hW hx hb
  have hget := fun hz W B A ca ho => hb.get hz h.n64 W B A ca ho
  have hval : x.blob = 0 → l = [] := fun h0 => (hb.nil h0).2
  have hw0 : w0.heap.size ≤ w.heap.size := by have := h.base; have := h.lt; omega
  obtain ⟨U1, hU1⟩ : ∃ U, U = str x.key := ⟨_, rfl⟩
  obtain ⟨U2, hU2⟩ : ∃ U, U = str x.val := ⟨_, rfl⟩
  obtain ⟨xb, hxb⟩ : ∃ b : Int, b = x.blob := ⟨_, rfl⟩
  obtain ⟨xz, hxz⟩ : ∃ b : Int, b = x.size := ⟨_, rfl⟩
  simp only [Cel.v] at hpg ⊢
  rw [← hU1, ← hU2, ← hxb, ← hxz] at hpg ⊢
  rw [← hxz] at hget
  have B0 := Lib.hid (below_al (Below.refl _ w) (celO U1 U2 xb xz))
  have z0 := heap_alloc_new w (celO U1 U2 xb xz)
  have cz := blk_cell z0
  have lz := lt_of_block z0
  have Z0 := Lib.hid z0
  have hp1 := hpg _ (h.rk B0.out)
  have HG := Lib.hid hget
  have HV : Hid (xb = 0 → l = []) := Lib.hid (fun e => hval (by omega))
  have HB : Hid (xb ≠ 0 → x.blob ≠ 0) := Lib.hid (fun e e' => e (by rw [hxb, e']; rfl))
  clear hU1 hU2 hxb hxz h hx hb z0 hpg hget hval
  go_enter Tryz.func27, Tryz.ntmps27
  go_wp2_with fail
  with_reducible refine hp1.mono ?_
  rintro e w1 ⟨A, ca, B, cc, rfl, hP, hN, g1, k1⟩
  have z1 := k1.blk Z0.out hw0
  have cz1 := blk_cell z1
  have lz1 := lt_of_block z1
  have P1 := Lib.hid hP
  have N1 := Lib.hid (row_mono hN B0.out.size)
  have G1 := Lib.hid g1
  have K1 := Lib.hid (Rk.trans (.of_below B0.out) k1)
  clear hP hN g1 k1 z1 cz lz hp1
  by_cases hb0 : xb = 0
  · have hU := HV.out hb0
    subst hb0 hU
    go_wp2_with fail
    go_ret2
    exact ⟨⟨none, 0, rfl, rfl, .inl ⟨rfl, rfl⟩⟩, G1.out, K1.out⟩
  · have hg := HG.out (HB.out hb0) w1 _ A ca P1.out
    go_wp2_with fail
    with_reducible refine hg.mono ?_
    rintro e w2 ⟨rfl, hb2⟩
    have G2 := Lib.hid (G1.out.rk hb2)
    have K2 := Lib.hid (K1.out.below hb2)
    have N2 := Lib.hid (own_below N1.out hb2)
    clear hb2 hg cz1 lz1
    go_wp2_with fail
    go_ret2
    exact ⟨⟨B, cc, rfl, N2.out⟩, G2.out, K2.out⟩
end Go.Proofs.YtijhamllnnilbaaGreatDoor.Ha
