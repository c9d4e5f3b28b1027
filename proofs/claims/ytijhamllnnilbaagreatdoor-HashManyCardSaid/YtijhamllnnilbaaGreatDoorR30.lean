/- Lemmas of the claim, in their order:
- The contract of hash.Store of a value that takes pages.
-/
import Derived.Test.YtijhamllnnilbaaGreatDoorR28
import Derived.Deep.LoopGhost
set_option linter.unusedVariables false
set_option linter.unusedSimpArgs false
namespace Go.Proofs.YtijhamllnnilbaaGreatDoor.Ha
open Go.RowKit Go.Proofs.YtijhamllnnilbaaGreatDoor.Mem Go.Proofs.YtijhamllnnilbaaGreatDoor.Pg Go.Proofs.YtijhamllnnilbaaGreatDoor.Kp Go.Proofs.YtijhamllnnilbaaGreatDoor.Sp Go.Proofs.YtijhamllnnilbaaGreatDoor.Gr
set_option linter.unusedSimpArgs false
set_option linter.unusedVariables false
theorem putOk_nat {v : List UInt8} {l : List Nat} (h1 : 40 < v.length) (h2 : v.length ≤ 400) (hl : l.length = Bl.pgN v.length) (hr : ∀ m, m ∈ l → 2 ≤ m ∧ m < 64) (hn : l.Nodup) : Bl.PutOk v (toI l) :=
 (BlobAt.putOk (n := 64) (pg := fun m => ⟨5, 0, (nxtN l (l.idxOf m) : Nat), Bl.body v (l.idxOf m)⟩) (x := ⟨[], [], l.getD 0 0, v.length⟩) (v := v) (l := l)
  (.inr ⟨h1, h2, rfl, hl, rfl, hr, fun i m hi => by
   obtain ⟨hlt, e⟩ := List.getElem?_eq_some_iff.1 hi
   have : l.idxOf m = i := by rw [← e]; exact hn.idxOf_getElem i hlt
   simp only [this], hn⟩)
  (by
   have hpn : 0 < Bl.pgN v.length := by unfold Bl.pgN; split <;> omega
   have h0 := hr _ (List.getElem_mem (show 0 < l.length by omega))
   show l.getD 0 0 ≠ 0
   rw [List.getD_eq_getElem?_getD, List.getElem?_eq_getElem (show 0 < l.length by omega)]
   simp only [Option.getD_some]
   omega) (Nat.le_refl _)).1
def StorePost (w0 w : World) (gb mb sb qb c n D : Nat) (pg : Nat → Pag) (t : Tri) (X : List Nat) (tk0 : Int) (key val : List UInt8) (e : Ending) (w' : World) : Prop :=
 (∃ (l : List Nat) (B : Option Addr) (cc : Nat) (pg' : Nat → Pag) (ml' : List UInt8), e = .returned (.tuple #[(⟨key, [], l.getD 0 0, val.length⟩ : Cel).v, .slice B l.length cc, .int .i64 0]) ∧ l.length = Bl.pgN val.length ∧
  w'.ownsRow w.heap.size 3 1 (.slice B l.length cc) l.length (natV l) ∧ BlobAt n pg' ⟨key, [], l.getD 0 0, val.length⟩ val l ∧ St w0 w' gb mb sb qb c n pg' D t ml' (X ++ l) (tk0 + l.length) ∧ SameX X pg pg') ∨
 (e = .returned (.tuple #[zcV, .slice none 0 0, .int .i64 6]) ∧ ∃ (l : List Nat) (pg' : Nat → Pag) (ml' : List UInt8), St w0 w' gb mb sb qb c n pg' D t ml' (X ++ l) (tk0 + l.length) ∧ l.length < Bl.pgN val.length ∧ takeI 2 ml' < 0)
structure Sk (w0 w : World) (gb mb sb qb c n D : Nat) (pg0 : Nat → Pag) (t : Tri) (X : List Nat) (tk0 : Int) (v9 : Value) (j : Nat) (wr : World) : Prop where
 ex : ∃ (l : List Nat) (pgj : Nat → Pag) (mlj : List UInt8), l.length = j ∧ wr.ownsRow (w.heap.size + 1) 3 1 v9 j (natV l) ∧ St w0 wr gb mb sb qb c n pgj D t mlj (X ++ l) (tk0 + (j : Nat)) ∧ SameX X pg0 pgj
 box : wr.heap[w.heap.size]? = some zcO
 frm : Wk w0.heap.size gb mb w wr
theorem ints_own' {w : World} {base n c : Nat} {e : TypeId} {A : Option Addr} {xs : List Int} (h : w.ownsRow base e 1 (.slice A n c) n (ints xs)) (hn : n ≤ 1000) : Ints w A n xs ∧ n ≤ c := by
 have hlen : xs.length = n := by have := h.1; simpa [ints] using this
 rcases h.2 with ⟨h0, h1⟩ | ⟨g, cap, cur, h0, _, hh, hc, _, _, ht⟩
 · refine ⟨⟨hlen, by omega, fun h2 => by omega⟩, by omega⟩
 · injection h0 with h1 h2 h3
   subst h1
   refine ⟨⟨hlen, by omega, fun _ => ⟨g, 0, rfl, lt_of_block hh, fun j hj => ?_⟩⟩, by omega⟩
   have := own_at h j (.int .i64 (xs.getD j 0)) (by simp [ints, List.getElem?_eq_getElem (show j < xs.length by omega)])
   rw [Nat.zero_add]; exact this
theorem natV_ints (l : List Nat) : natV l = ints (toI l) := by simp [natV, ints, toI]
structure Sl (w0 w : World) (gb mb sb qb c n D : Nat) (pg0 : Nat → Pag) (t : Tri) (X : List Nat) (tk0 : Int) (l : List Nat) (ml' : List UInt8) (val : List UInt8) (A9 : Option Addr) (c9 : Nat) (v12 : Value) (j : Nat) (wr : World) : Prop where
 ex : ∃ pgj : Nat → Pag, St w0 wr gb mb sb qb c n pgj D t ml' (X ++ l) (tk0 + (l.length : Nat)) ∧ (∀ i m, i < j → l[i]? = some m → pgj m = ⟨5, 0, (nxtN l i : Nat), Bl.body val i⟩) ∧ SameX X pg0 pgj
 own : wr.ownsRow (w.heap.size + 1) 3 1 (.slice A9 l.length c9) l.length (natV l)
 pag : wr.ownsRow (w.heap.size + 1) 113 4 v12 l.length (Bl.rows val (toI l) l.length)
 box : wr.heap[w.heap.size]? = some zcO
 frm : Wk w0.heap.size gb mb w wr
theorem set_box {w0 w wr : World} {gb mb sb qb c n : Nat} {pg : Nat → Pag} {tk : Int} (hg : GV w0 wr gb mb sb qb c n pg tk) (hw : Wk w0.heap.size gb mb w wr) (h : gb < w.heap.size ∧ mb < w.heap.size) (a b d e : Value) :
 GV w0 (set4 wr w.heap.size a b d e) gb mb sb qb c n pg tk ∧ Wk w0.heap.size gb mb w (set4 wr w.heap.size a b d e) := by
 have k : Keep (fun j => j = w.heap.size) wr (set4 wr w.heap.size a b d e) := keep_set4 (S := fun j => j = w.heap.size) (Keep.refl _ wr) (.inl rfl) _ _ _ _
 exact ⟨hg.owns k (fun i hi => by omega), hw.local k (fun i hi => by omega)⟩
theorem next_ok {w0 w wr w6 : World} {gb mb sb qb c n D : Nat} {pg0 : Nat → Pag} {t : Tri} {X : List Nat} {tk0 : Int} {l : List Nat} {ml' : List UInt8} {val : List UInt8} {A9 : Option Addr} {c9 j : Nat} {v12 : Value} {o : Obj} {pgq : Nat → Pag} (hR : ∀ m, m ∈ l → 2 ≤ m ∧ m < n) (hD : l.Nodup) (hlt : j < l.length)
 (S : Sl w0 w gb mb sb qb c n D pg0 t X tk0 l ml' val A9 c9 v12 j wr) (hst : St w0 wr gb mb sb qb c n pgq D t ml' (X ++ l) (tk0 + (l.length : Nat))) (hpq : ∀ i m, i < j → l[i]? = some m → pgq m = ⟨5, 0, (nxtN l i : Nat), Bl.body val i⟩) (hsx : SameX X pg0 pgq)
 (hgl : gb < w.heap.size ∧ mb < w.heap.size ∧ sb < w.heap.size ∧ qb < w.heap.size) (hw0 : w0.heap.size ≤ w.heap.size) (hgb : w0.heap.size ≤ gb ∧ w0.heap.size ≤ mb)
 (g6 : GV w0 w6 gb mb sb qb c n (updN pgq l[j] ⟨5, 0, (nxtN l j : Nat), Bl.body val j⟩) (tk0 + (l.length : Nat) + ((numsF t.leaves).length : Int))) (k6 : Wk w0.heap.size gb mb (wr.alloc o).drew w6) :
 Sl w0 w gb mb sb qb c n D pg0 t X tk0 l ml' val A9 c9 v12 (j + 1) w6 := by
 have hb : Below wr.heap.size wr (wr.alloc o).drew := below_dr (below_al (Below.refl _ _) _)
 refine ⟨⟨_, ⟨g6, hst.hs.other (List.mem_append_right _ (List.getElem_mem hlt)) _⟩, fun i m hi hm => ?_, hsx.upd (fun h => (List.nodup_append.1 hst.hs.xn).2.2 _ h _ (List.getElem_mem hlt) rfl) _⟩, k6.row (own_below S.own hb) (by omega) (by omega) (by omega), k6.row (own_below S.pag hb) (by omega) (by omega) (by omega), k6.blk (blk_keep S.box hb) hw0 (by omega) (by omega), (S.frm.trans (.of_below hb)).trans k6⟩
 by_cases e : i = j
 · subst e
   rw [List.getElem?_eq_getElem hlt] at hm
   injection hm with hm
   subst hm
   exact updN_same ..
 · have : m ≠ l[j] := fun e1 => by
    have h1 := (List.getElem?_inj (List.getElem?_eq_some_iff.1 hm).1 hD).1 (show l[i]? = l[j]? by rw [hm, e1, List.getElem?_eq_getElem hlt])
    exact e h1
   rw [updN_other _ _ this]
   exact hpq i m (by omega) hm
set_option maxRecDepth 100000 in
set_option maxHeartbeats 8000000 in
theorem store_blob (w0 w : World) (gb mb sb qb c n D : Nat) (pg : Nat → Pag) (t : Tri) (ml : List UInt8) (X : List Nat) (tk0 : Int) (key val : List UInt8) (h : St w0 w gb mb sb qb c n pg D t ml X tk0) (hk : keyOk key) (hv : 40 < val.length ∧ val.length ≤ 400)
 (htk : -900000 ≤ tk0 ∧ tk0 ≤ 900000) :
 Calls Tryz.prog 24 #[.pointer (some ⟨gb, 0, none⟩), .string (str key), .string (str val)] w fun e w' => StorePost w0 w gb mb sb qb c n D pg t X tk0 key val e w' ∧ Wk w0.heap.size gb mb w w' := by
 obtain ⟨i0, hif, hz0, hz1, hz2⟩ := info_parts info_int'
 have hkey := fun W => key_any key W
 have hval := fun W => value_any val W
 rw [decide_eq_true hk] at hkey
 rw [decide_eq_true hv.2] at hval
 have hsz : (str val).size = val.length := str_size val
 have hpg := fun W => Bl.blobPages_any val.length W (by omega)
 have hpn2 := Bl.pgN_le val.length
 have hz := heap_alloc_new w zcO
 have lz := lt_of_block hz
 have B0 := below_al (Below.refl _ w) zcO
 have Z0 := Lib.hid hz
 have hgl := h.gv.lt
 have hgb := h.gv.base
 have hw0 : w0.heap.size ≤ w.heap.size := by omega
 have S0 : Hid (St w0 (w.alloc zcO) gb mb sb qb c n pg D t ml X tk0) := Lib.hid ⟨h.gv.rk B0, h.hs⟩
 have W0 : Hid (Wk w0.heap.size gb mb w (w.alloc zcO)) := Lib.hid (.of_below B0)
 obtain ⟨U, hU⟩ : ∃ U, U = str key := ⟨_, rfl⟩
 obtain ⟨V, hV⟩ : ∃ V, V = str val := ⟨_, rfl⟩
 rw [← hU] at hkey ⊢
 rw [← hV] at hval hsz ⊢
 have EQ := Lib.hid (And.intro hU hV)
 have HV := Lib.hid hv
 have HK := Lib.hid hk
 have HT := Lib.hid htk
 have hle : ¬ V.size ≤ 40 := by omega
 have hleI : ¬ (V.size : Int) ≤ 40 := by omega
 rw [← hsz] at hpg hpn2
 have HSZ := Lib.hid hsz
 generalize hM : Bl.pgN V.size = M at *
 have HM := Lib.hid hM
 clear hU hV hz B0 hk hv hsz h htk hM
 go_enter Tryz.func24, Tryz.ntmps24
 go_wp2_with fail
 with_reducible refine (hkey _).mono ?_
 rintro e w1 ⟨rfl, rfl⟩
 go_wp2_with fail
 with_reducible refine (hval _).mono ?_
 rintro e w2 ⟨rfl, rfl⟩
 go_wp2_with fail
 with_reducible refine (hpg _).mono ?_
 rintro e w3 ⟨rfl, rfl⟩
 go_wp2_with fail
 have R0 : Hid (Sk w0 w gb mb sb qb c n D pg t X tk0 (.slice none 0 0) 0 (w.alloc zcO)) := Lib.hid ⟨⟨[], pg, ml, rfl, ⟨rfl, .inl ⟨rfl, rfl⟩⟩, by rw [List.append_nil, show tk0 + ((0 : Nat) : Int) = tk0 by omega]; exact ⟨S0.out, .refl _ _⟩⟩, Z0.out, W0.out⟩
 go_loopg [9, 35] M (fun k v9 v35 wr => ∃ j, k + j = M ∧ v35 = .int .i64 (j : Nat) ∧ Hid (Sk w0 w gb mb sb qb c n D pg t X tk0 v9 j wr))
 case atStart => exact ⟨0, rfl, rfl, R0⟩
 case round =>
  clear R0 S0 W0 Z0 lz hpg
  obtain ⟨j, hkj, rfl, R1⟩ := hrel
  by_cases hlt : j < M
  · obtain ⟨l, pgj, mlj, hl, hown, hst, hsx⟩ := R1.out.ex
    have HSX := Lib.hid hsx
    clear hsx
    obtain ⟨md, mx, hmap⟩ := hst.hs.map
    have hL64 := numsF_len hst.hs
    have hTK := HT.out
    have hltI : (j : Int) < (M : Int) := by omega
    have z1 := R1.out.box
    have cz1 := blk_cell z1
    have fz1 := blk_free z1
    have lz1 := lt_of_block z1
    have i1 : IntKind.i64.wrap ((j : Int) + 1) = (j : Int) + 1 := IntWalk.i64_in _ (by omega)
    have SJ := Lib.hid hst
    have OJ := Lib.hid hown
    have LJ := Lib.hid hl
    have MP := Lib.hid hmap
    rcases takeI_map hst.hs.is with ⟨h1, _⟩ | ⟨i, h1, h2, h3, _, _⟩
    · have htake := hst.gv.take_noR hmap hst.hs.is (by omega)
      have HN : Hid (takeI 2 mlj < 0) := Lib.hid (by omega)
      have ZZ := Lib.hid z1
      clear hst hown hmap h1 z1 cz1 fz1 lz1
      go_wp2_with fail
      with_reducible refine htake.mono ?_
      rintro e w4 ⟨rfl, g4, k4⟩
      have z4 := k4.blk ZZ.out hw0
      have cz4 := blk_cell z4
      have fz4 := blk_free z4
      have lz4 := lt_of_block z4
      have hsb := set_box g4 (R1.out.frm.trans (.of_rk k4)) ⟨hgl.1, hgl.2.1⟩ (.string ⟨#[]⟩) (.string ⟨#[]⟩) (.int .i64 0) (.int .i64 0)
      have zf := blk_cell (set4_same z4 (.string ⟨#[]⟩) (.string ⟨#[]⟩) (.int .i64 0) (.int .i64 0))
      have HP : Hid (StorePost w0 w gb mb sb qb c n D pg t X tk0 key val (.returned (.tuple #[zcV, .slice none 0 0, .int .i64 6])) (set4 w4 w.heap.size (.string ⟨#[]⟩) (.string ⟨#[]⟩) (.int .i64 0) (.int .i64 0)) ∧ Wk w0.heap.size gb mb w (set4 w4 w.heap.size (.string ⟨#[]⟩) (.string ⟨#[]⟩) (.int .i64 0) (.int .i64 0))) :=
       Lib.hid ⟨.inr ⟨rfl, l, pgj, mlj, ⟨by rw [LJ.out]; exact hsb.1, by exact SJ.out.hs⟩, by rw [LJ.out, ← HSZ.out, HM.out]; exact hlt, HN.out⟩, hsb.2⟩
      clear g4 k4 z4 hsb htake i1
      go_wp2_with fail
      refine bodyPost_ret (v := .tuple #[zcV, .slice none 0 0, .int .i64 6]) (by simp [results, Tryz.results24, go_sem, zf]) rfl HP.out
    · have htake := hst.gv.takeW hmap hst.hs.is (by omega) i h1 h3
      have HS1 := Lib.hid (hst.hs.take h1 hmap)
      have ZZ := Lib.hid z1
      clear hst hmap z1 cz1 fz1 lz1 h1
      go_wp2_with fail
      with_reducible refine htake.mono ?_
      rintro e w4 ⟨rfl, g4, k4⟩
      have o4 := k4.row OJ.out (by omega) (by omega) (by omega)
      have z4 := k4.blk ZZ.out hw0 (by omega) (by omega)
      have hw4 : w.heap.size + 1 ≤ w4.heap.size := lt_of_block z4
      have o5 := o4.alloc (.cells #[.int .i64 (i : Nat)] 3)
      have z5 := hal (o := .cells #[.int .i64 (i : Nat)] 3) z4
      have F4 := Lib.hid (R1.out.frm.trans k4)
      have G4 := Lib.hid (g4.rk (below_al (Below.refl _ w4) (.cells #[.int .i64 (i : Nat)] 3)))
      clear g4 k4 htake hown o4 z4
      go_wp2_with (at_builtin; refine wpList_append_own _ rfl (.tmp 46) (.tmp 48) _ rfl (w.heap.size + 1) 3 i0 (.int .i64 0) 1 8 Tryz.underlying45 hif hz0 hz1 hz2 rfl (by decide) _ j (natV l) rfl o5 ⟨w4.heap.size, 0, none⟩ 1 1 [.int .i64 (i : Nat)] rfl rfl (cells_one _ _ _) (by intro u hu; simp at hu; subst hu; rfl) (by unfold maxLen; omega) (by omega) (by simp; omega) ?_; intro v9' w6 own6 grow6 _)
      have kg := Keep.grown (S := fun j => w.heap.size + 1 ≤ j) grow6 (fun y hy => own_base o5 y hy)
      have z6 := keep_grown o5 grow6 (Nat.lt_succ_self _) z5
      have hg6 := G4.out.owns kg (fun y hy => by omega)
      have hf6 : Wk w0.heap.size gb mb w w6 := Wk.local (F4.out.trans (.of_below (below_al (Below.refl _ w4) (.cells #[.int .i64 (i : Nat)] 3)))) kg (fun y hy => by omega)
      have RN : Hid (Sk w0 w gb mb sb qb c n D pg t X tk0 v9' (j + 1) w6) := Lib.hid ⟨⟨l ++ [i], _, _, by rw [List.length_append, LJ.out]; rfl, by rw [show natV (l ++ [i]) = natV l ++ [.int .i64 (i : Nat)] by simp [natV]]; exact own6, ⟨by
       have : tk0 + (j : Int) + ((numsF t.leaves).length : Int) + 1 = tk0 + ((j + 1 : Nat) : Int) + ((numsF t.leaves).length : Int) := by omega
       rw [← this]; exact hg6, by rw [← List.append_assoc]; exact HS1.out⟩, HSX.out.upd (fun hm => SJ.out.hs.notX (show 1 < 2 by omega) (List.mem_append_left _ hm)) _⟩, z6, hf6⟩
      go_roundg (gk - 1)
      case measure => omega
      case rel => exact ⟨j + 1, by omega, rfl, RN⟩
  · obtain rfl : j = M := by omega
    obtain ⟨l, pgj, mlj, hl, hown, hst, hsx⟩ := R1.out.ex
    have HSX := Lib.hid hsx
    clear hsx
    have hL := HSZ.out
    have hvv := HV.out
    have hMM := HM.out
    have hnd : l.Nodup := (List.nodup_append.1 hst.hs.xn).2.1
    have hlr : ∀ m, m ∈ l → 2 ≤ m ∧ m < n := fun m hm => hst.hs.xr m (List.mem_append_right _ hm)
    have h64 := hst.gv.n64
    have hlp : l.length = Bl.pgN val.length := by rw [hl, ← hMM, hL]
    have hpos : 0 < l.length := by rw [hlp]; unfold Bl.pgN; split <;> omega
    have hok := putOk_nat hvv.1 hvv.2 hlp (fun m hm => ⟨(hlr m hm).1, by have := (hlr m hm).2; omega⟩) hnd
    obtain ⟨A9, c9, h9⟩ := own_slice hown
    subst h9 hl
    have hio := ints_own' (natV_ints l ▸ hown) (by omega)
    have hput := Bl.put_any val A9 l.length c9 (toI l) wr (by omega) hio.1 hio.2
    rw [← EQ.out.2] at hput
    have HO := Lib.hid hown
    have HS := Lib.hid hst
    have HZ := Lib.hid R1.out.box
    have HF := Lib.hid R1.out.frm
    have HL := Lib.hid hlp
    have HR := Lib.hid hlr
    have HD := Lib.hid hnd
    have HK := Lib.hid hok
    have HTL : Hid ((toI l).length = l.length) := Lib.hid (by simp [toI])
    have hwr : w.heap.size + 1 ≤ wr.heap.size := lt_of_block R1.out.box
    clear hown hst hlp hlr hnd hok hio R1 hMM hL hvv hlt hkj
    go_wp2_with fail
    with_reducible refine hput.mono ?_
    rintro e w4 hpost
    rcases hpost with ⟨_, v12, rfl, hrow, hb4⟩ | ⟨hno, _⟩
    · rw [HTL.out] at hrow
      have L0 : Hid (Sl w0 w gb mb sb qb c n D pg t X tk0 l mlj val A9 c9 v12 0 w4) := Lib.hid
       ⟨⟨pgj, ⟨HS.out.gv.rk hb4, HS.out.hs⟩, fun i m hi => absurd hi (Nat.not_lt_zero i), HSX.out⟩, own_below HO.out hb4, row_mono hrow hwr, blk_keep HZ.out hb4, HF.out.trans (.of_below hb4)⟩
      obtain ⟨A12, c12, h12⟩ := own_slice hrow
      subst h12
      clear hrow hb4 hput
      go_wp2_with fail
      have hform : ∀ (b : Nat) (e : TypeId) (k : Nat) (xs : List Value) (A : Option Addr) (cp : Nat) (W : World), W.ownsRow b e k (.slice A l.length cp) l.length xs → ∃ g, A = some ⟨g, 0, none⟩ := fun b e k xs A cp W hr => by
       rcases hr.2 with ⟨_, h0⟩ | ⟨g, cap, cur, h0, _⟩
       · omega
       · injection h0 with h0; exact ⟨g, h0⟩
      obtain ⟨g9, rfl⟩ := hform _ _ _ _ _ _ _ L0.out.own
      obtain ⟨g12, rfl⟩ := hform _ _ _ _ _ _ _ L0.out.pag
      clear hform HS HZ HF
      go_loopg [59] l.length (fun k v59 wr => ∃ j, k + j = l.length ∧ v59 = .int .i64 (j : Nat) ∧ Hid (Sl w0 w gb mb sb qb c n D pg t X tk0 l mlj val (some ⟨g9, 0, none⟩) c9 (.slice (some ⟨g12, 0, none⟩) l.length c12) j wr))
      case atStart => exact ⟨0, by omega, rfl, L0⟩
      case round =>
       clear L0
       obtain ⟨j, hkj, rfl, R2⟩ := hrel
       by_cases hlt : j < l.length
       · obtain ⟨pgq, hst, hpq, hsx⟩ := R2.out.ex
         have HSX2 := Lib.hid hsx
         clear hsx
         have hm := HR.out _ (List.getElem_mem hlt)
         have hlj : l[j]? = some l[j] := List.getElem?_eq_getElem hlt
         have hcl := own_at R2.out.own j (.int .i64 ((l[j] : Nat) : Int)) (by rw [natV, List.getElem?_map, hlj]; rfl)
         have hll := own_lt R2.out.own g9 rfl
         have hpl := own_lt R2.out.pag g12 rfl
         have hnx : Bl.nextOf (toI l) j = ((nxtN l j : Nat) : Int) := by
          unfold Bl.nextOf nxtN
          rw [HTL.out]
          split
          · rename_i hlt2
            rw [toI_getD l (j + 1) hlt2, List.getD_eq_getElem?_getD, List.getElem?_eq_getElem hlt2]; rfl
          · rw [List.getD_eq_getElem?_getD, List.getElem?_eq_none (by omega)]; rfl
         have pc := fun r (hr : r < 4) (u : Value) (hu : (Bl.pgRow val (toI l) j)[r]? = some u) => own_at R2.out.pag (j * 4 + r) u ((Bl.rows_get val (toI l) l.length j r hlt hr).trans hu)
         have c0 := pc 0 (by omega) _ rfl
         have c1 := pc 1 (by omega) _ rfl
         have c2 := pc 2 (by omega) _ rfl
         have c3 := pc 3 (by omega) _ rfl
         rw [hnx] at c2
         rw [Nat.add_zero] at c0
         have hnl : nxtN l j < 64 := by
          unfold nxtN
          by_cases hlt2 : j + 1 < l.length
          · have := HR.out _ (List.getElem_mem hlt2)
            rw [List.getD_eq_getElem?_getD, List.getElem?_eq_getElem hlt2]
            simp only [Option.getD_some]; omega
          · rw [List.getD_eq_getElem?_getD, List.getElem?_eq_none (by omega)]; simp
         have hpok : Pag.ok ⟨5, 0, (nxtN l j : Nat), Bl.body val j⟩ := ⟨(by decide : (0 : Int) ≤ 5), (by decide : (5 : Int) < 6), (by decide : (0 : Int) ≤ 0), (by decide : (0 : Int) ≤ 5), Int.natCast_nonneg _, by show ((nxtN l j : Nat) : Int) < 64; omega, Bl.body_len val j⟩
         have hpt := fun W (hW : GV w0 W gb mb sb qb c n pgq (tk0 + (l.length : Nat) + ((numsF t.leaves).length : Int))) => hW.putW l[j] hm.2 _ hpok
         simp only [Pag.v] at hpt
         obtain ⟨S, hS⟩ : ∃ S, S = str (Bl.body val j) := ⟨_, rfl⟩
         rw [← hS] at hpt c3
         have HST := Lib.hid hst
         have HPQ := Lib.hid hpq
         have HPT := Lib.hid hpt
         have HLJ := Lib.hid hlj
         have hjI : (j : Int) < (l.length : Int) := by omega
         have i1 : IntKind.i64.wrap ((j : Int) + 1) = (j : Int) + 1 := IntWalk.i64_in _ (by omega)
         have pw := heap_alloc_new wr (pagO 5 0 (nxtN l j : Nat) S)
         have PW := Lib.hid pw
         have HCL := Lib.hid ((below_al (Below.refl _ wr) (pagO 5 0 (nxtN l j : Nat) S)).cell (p := ⟨g9, j, none⟩) hll |>.trans hcl)
         have HLL : Hid (g9 < (wr.alloc (pagO 5 0 (nxtN l j : Nat) S)).heap.size) := Lib.hid (by simp; omega)
         clear hst hpq hpt hlj hnl hpok hS pw hnx pc hcl
         go_wp2_with fail
         refine Ra.wp_region_A (S := (Bz (wr.alloc (pagO 5 0 (nxtN l j : Nat) S)))) [4, 5] (by kernel_rfl) (below_dr (Below.refl _ _)) (fun hHeld => ?_)
         refine Ra.WT 0 ?_ ?_ ?_
         rotate_left
         · intro wq hSw
           go_simp
           try with_reducible rfl
         try simp only [Act.put, List.getElem_toArray, List.getElem_cons_succ, List.getElem_cons_zero, List.setIfInBounds_toArray, List.set_cons_zero, List.set_cons_succ]
         refine Ra.WT 1 ?_ ?_ ?_
         rotate_left
         · intro wq hSw
           go_simp
           try with_reducible rfl
         try simp only [Act.put, List.getElem_toArray, List.getElem_cons_succ, List.getElem_cons_zero, List.setIfInBounds_toArray, List.set_cons_zero, List.set_cons_succ]
         refine Ra.WT 2 ?_ ?_ ?_
         rotate_left
         · intro wq hSw
           go_simp
           try with_reducible rfl
         try simp only [Act.put, List.getElem_toArray, List.getElem_cons_succ, List.getElem_cons_zero, List.setIfInBounds_toArray, List.set_cons_zero, List.set_cons_succ]
         refine Ra.WT 3 ?_ ?_ ?_
         rotate_left
         · intro wq hSw
           go_simp
           try with_reducible rfl
         try simp only [Act.put, List.getElem_toArray, List.getElem_cons_succ, List.getElem_cons_zero, List.setIfInBounds_toArray, List.set_cons_zero, List.set_cons_succ]
         refine Ra.WA 4 ?_ ?_ hHeld ?_
         rotate_left
         · intro wq hSw
           have hSc := blk_cell (blk_keep PW.out hSw); have hSl := lt_of_block (blk_keep PW.out hSw); have hSd := (Below.cell hSw (p := ⟨g9, j, none⟩) HLL.out).trans HCL.out; have hSe := Nat.lt_of_lt_of_le HLL.out (Below.size hSw)
           go_simp
           try with_reducible rfl
         try simp only [Act.put, List.getElem_toArray, List.getElem_cons_succ, List.getElem_cons_zero, List.setIfInBounds_toArray, List.set_cons_zero, List.set_cons_succ]
         refine Ra.WA 5 ?_ ?_ hHeld ?_
         rotate_left
         · intro wq hSw
           have hSc := blk_cell (blk_keep PW.out hSw); have hSl := lt_of_block (blk_keep PW.out hSw); have hSd := (Below.cell hSw (p := ⟨g9, j, none⟩) HLL.out).trans HCL.out; have hSe := Nat.lt_of_lt_of_le HLL.out (Below.size hSw)
           go_simp
           try with_reducible rfl
         try simp only [Act.put, List.getElem_toArray, List.getElem_cons_succ, List.getElem_cons_zero, List.setIfInBounds_toArray, List.set_cons_zero, List.set_cons_succ]
         refine Ra.wpA_ready (rs := [6]) (by kernel_rfl) (by simp) ?_
         refine Ra.AllReadyA.late rfl rfl (fun K hK => ?_) Ra.AllReadyA.nil
         rw [if_pos (by kernel_rfl)]
         go_simp
         (with_reducible refine (HPT.out _ (HST.out.gv.rk (below_dr (below_al (Below.refl _ _) _)))).mono ?_)
         rintro e w6 ⟨rfl, g6, k6⟩
         go_simp
         refine hK.out _ _ (trivial) (fun hHeld2 => ?_)
         clear hK K
         try clear hHeld
         have hHeld := hHeld2
         try clear hHeld2
         refine Ra.WT 7 ?_ ?_ ?_
         rotate_left
         · intro wq hSw
           go_simp
           try with_reducible rfl
         try simp only [Act.put, List.getElem_toArray, List.getElem_cons_succ, List.getElem_cons_zero, List.setIfInBounds_toArray, List.set_cons_zero, List.set_cons_succ]
         refine Ra.wpA_done (by kernel_rfl) ?_ _
         have SN := Lib.hid (next_ok HR.out HD.out hlt R2.out HST.out HPQ.out HSX2.out hgl hw0 hgb g6 k6)
         clear g6 k6 hHeld HPT
         go_wp2_with fail
         go_roundg (gk - 1)
         case measure => omega
         case rel => exact ⟨j + 1, by omega, rfl, SN⟩
       · obtain rfl : j = l.length := by omega
         obtain ⟨pgq, hst, hpq, hsx⟩ := R2.out.ex
         have HSX2 := Lib.hid hsx
         clear hsx
         have hl0 : l[0]? = some (l.getD 0 0) := by rw [List.getD_eq_getElem?_getD, List.getElem?_eq_getElem hpos]; rfl
         have hcl := own_at R2.out.own 0 (.int .i64 ((l.getD 0 0 : Nat) : Int)) (by rw [natV, List.getElem?_map, hl0]; rfl)
         have hll := own_lt R2.out.own g9 rfl
         have hposI : (0 : Int) < (l.length : Int) := by omega
         have z7 := R2.out.box
         have cz7 := blk_cell z7
         have fz7 := blk_free z7
         have lz7 := lt_of_block z7
         have hsb := set_box hst.gv R2.out.frm ⟨hgl.1, hgl.2.1⟩ (.string U) (.string ⟨#[]⟩) (.int .i64 ((l.getD 0 0 : Nat) : Int)) (.int .i64 (V.size : Nat))
         have zf := blk_cell (set4_same z7 (.string U) (.string ⟨#[]⟩) (.int .i64 ((l.getD 0 0 : Nat) : Int)) (.int .i64 (V.size : Nat)))
         have kp : Keep (fun j => j = w.heap.size) wr (set4 wr w.heap.size (.string U) (.string ⟨#[]⟩) (.int .i64 ((l.getD 0 0 : Nat) : Int)) (.int .i64 (V.size : Nat))) := keep_set4 (S := fun j => j = w.heap.size) (Keep.refl _ wr) (.inl rfl) _ _ _ _
         have orow := row_mono (kp.row R2.out.own (fun g hg => by have := own_base R2.out.own g hg; omega)) (Nat.le_succ _)
         have HP : Hid (StorePost w0 w gb mb sb qb c n D pg t X tk0 key val (.returned (.tuple #[.agg #[.string U, .string ⟨#[]⟩, .int .i64 ((l.getD 0 0 : Nat) : Int), .int .i64 (V.size : Nat)], .slice (some ⟨g9, 0, none⟩) l.length c9, .int .i64 0])) (set4 wr w.heap.size (.string U) (.string ⟨#[]⟩) (.int .i64 ((l.getD 0 0 : Nat) : Int)) (.int .i64 (V.size : Nat))) ∧ Wk w0.heap.size gb mb w (set4 wr w.heap.size (.string U) (.string ⟨#[]⟩) (.int .i64 ((l.getD 0 0 : Nat) : Int)) (.int .i64 (V.size : Nat)))) :=
          Lib.hid ⟨.inl ⟨l, _, c9, pgq, mlj, by rw [EQ.out.1, HSZ.out]; rfl, HL.out, orow, .inr ⟨HV.out.1, HV.out.2, rfl, HL.out, rfl, HR.out, fun i m hi => hpq i m (List.getElem?_eq_some_iff.1 hi).1 hi, HD.out⟩, ⟨hsb.1, hst.hs⟩, HSX2.out⟩, hsb.2⟩
         generalize hL0 : l.getD 0 0 = L0 at *
         clear hst hpq hsb kp orow z7 hl0 hL0
         go_wp2_with fail
         refine bodyPost_ret (v := .tuple #[.agg #[.string U, .string ⟨#[]⟩, .int .i64 ((L0 : Nat) : Int), .int .i64 (V.size : Nat)], .slice (some ⟨g9, 0, none⟩) l.length c9, .int .i64 0]) (by simp [results, Tryz.results24, go_sem, zf]) rfl HP.out
    · exact absurd HK.out hno
end Go.Proofs.YtijhamllnnilbaaGreatDoor.Ha
