/- Lemmas of the claim, in their order:
- HashMany: what each call tells.
- HashMany: the walk.
-/
import Derived.Test.YtijhamllnnilbaaGreatDoorR42
import Derived.Test.YtijhamllnnilbaaGreatDoorR43
import Derived.Test.YtijhamllnnilbaaGreatDoorR41
set_option linter.unusedVariables false
set_option linter.unusedSimpArgs false
namespace Go.Proofs.YtijhamllnnilbaaGreatDoor.Ha
open Go.RowKit Go.Proofs.YtijhamllnnilbaaGreatDoor.Mem Go.Proofs.YtijhamllnnilbaaGreatDoor.Pg Go.Proofs.YtijhamllnnilbaaGreatDoor.Kp Go.Proofs.YtijhamllnnilbaaGreatDoor.Sp Go.Proofs.YtijhamllnnilbaaGreatDoor.Gr
set_option linter.unusedSimpArgs false
set_option linter.unusedVariables false
def Mn (w0 w : World) (gb mb sb qb c n : Nat) (F : Mp) (m : Nat) (tk : Int) : Prop :=
 ∃ pg D t ml X pl, St w0 w gb mb sb qb c n pg D t ml X tk ∧ Vt n pg t X [] F pl ∧ (cellsT t).length = m
def Mo (w : World) (sb qb c n : Nat) (F : Mp) (m : Nat) : Prop :=
 ∃ pg D t ml X pl B, Sto w sb qb n c (-1) B ∧ (∀ i, i < n → Shows (B i) (pg i)) ∧ Hs n pg D t ml X ∧ Vt n pg t X [] F pl ∧ (cellsT t).length = m
def Ms (w0 w : World) (gb mb sb qb c n : Nat) (F : Mp) (m : Nat) (tk : Int) (key v : List UInt8) (x : Cel) : Prop :=
 ∃ pg D t ml X pl l, St w0 w gb mb sb qb c n pg D t ml (X ++ l) (tk + (l.length : Int)) ∧ Vt n pg t (X ++ l) l F pl ∧ (cellsT t).length = m ∧ l.length ≤ 2 ∧ x.key = key ∧ x.ok ∧ BlobAt n pg x v l
section
variable {w0 w w' : World} {gb mb sb qb c n m : Nat} {F : Mp} {tk : Int} {key v : List UInt8} {x : Cel}
theorem Mn.below (h : Mn w0 w gb mb sb qb c n F m tk) (k : Below w.heap.size w w') : Mn w0 w' gb mb sb qb c n F m tk := by
 obtain ⟨pg, D, t, ml, X, pl, h1, h2⟩ := h
 exact ⟨pg, D, t, ml, X, pl, h1.below k, h2⟩
theorem Mo.below (h : Mo w sb qb c n F m) (k : Below w.heap.size w w') : Mo w' sb qb c n F m := by
 obtain ⟨pg, D, t, ml, X, pl, B, h1, h2⟩ := h
 exact ⟨pg, D, t, ml, X, pl, B, h1.below k, h2⟩
theorem Mo.keep {S : Nat → Prop} (h : Mo w sb qb c n F m) (k : Keep S w w') (h1 : ¬ S sb) (h2 : ¬ S qb) : Mo w' sb qb c n F m := by
 obtain ⟨pg, D, t, ml, X, pl, B, h3, h4⟩ := h
 exact ⟨pg, D, t, ml, X, pl, B, h3.keep k h1 h2, h4⟩
theorem Ms.below (h : Ms w0 w gb mb sb qb c n F m tk key v x) (k : Below w.heap.size w w') : Ms w0 w' gb mb sb qb c n F m tk key v x := by
 obtain ⟨pg, D, t, ml, X, pl, l, h1, h2⟩ := h
 exact ⟨pg, D, t, ml, X, pl, l, h1.below k, h2⟩
theorem Mn.keep {S : Nat → Prop} (h : Mn w0 w gb mb sb qb c n F m tk) (k : Keep S w w') (hS : ∀ i, S i → i ≠ gb ∧ i ≠ mb ∧ w0.heap.size ≤ i ∧ i ≠ sb ∧ i ≠ qb ∧ i ≠ gtab) : Mn w0 w' gb mb sb qb c n F m tk := by
 obtain ⟨pg, D, t, ml, X, pl, h1, h2⟩ := h
 exact ⟨pg, D, t, ml, X, pl, ⟨h1.gv.keep k hS, h1.hs⟩, h2⟩
theorem Mn.ord (h : Mn w0 w gb mb sb qb c n F m tk) : gb < w.heap.size ∧ mb < w.heap.size ∧ sb < w.heap.size ∧ qb < w.heap.size ∧ w0.heap.size ≤ gb ∧ w0.heap.size ≤ mb ∧ sb < gb ∧ sb < mb ∧ qb < gb ∧ qb < mb ∧ gtab < gb ∧ gtab < mb := by
 obtain ⟨pg, D, t, ml, X, pl, h1, h2⟩ := h
 exact ⟨h1.gv.lt.1, h1.gv.lt.2.1, h1.gv.lt.2.2.1, h1.gv.lt.2.2.2, h1.gv.ord⟩
theorem Mn.keyOk (h : Mn w0 w gb mb sb qb c n F m tk) (hF : F key = some v) : keyOk key := by
 obtain ⟨pg, D, t, ml, X, pl, h1, h2, _⟩ := h
 rcases h2.look h1.hs.tb key with ⟨_, e⟩ | ⟨x, v, e1, e2, e3, e4, e5, e6⟩
 · rw [e] at hF; cases hF
 · rw [← e2]; exact ((Cel.ok_iff x).1 e5).1
end
theorem mn_into (w0 w : World) (gb mb sb qb c n : Nat) (F : Mp) (m : Nat) (tk : Int) (hn : 0 < n) (h : Mn w0 w gb mb sb qb c n F m tk) :
 Calls Tryz.prog 22 #[.pointer (some ⟨sb, 0, none⟩), .pointer (some ⟨gb, 0, none⟩)] w fun e w' => e = .returned (.tuple #[]) ∧ Mo w' sb qb c n F m ∧ Tab w' ∧ Keep (fun j => j = qb) w w' := by
 obtain ⟨pg, D, t, ml, X, pl, h1, h2, h3⟩ := h
 refine (into_ok w0 w gb mb sb qb c n pg _ h1.gv hn).mono ?_
 rintro e w' ⟨rfl, ⟨B, hB, hs⟩, ht, hk⟩
 exact ⟨rfl, ⟨pg, D, t, ml, X, pl, B, hB, hs, h1.hs, h2, h3⟩, ht, hk⟩
theorem mo_new (w0 w : World) (sb qb c n : Nat) (F : Mp) (m : Nat) (h : Mo w sb qb c n F m) (ht : Tab w) (hb : Below w0.heap.size w0 w) :
 Calls Tryz.prog 15 #[rdv sb] w fun e w' => ∃ gb mb tk, e = .returned (.pointer (some ⟨gb, 0, none⟩)) ∧ (-64 ≤ tk ∧ tk ≤ 0) ∧ Mn w0 w' gb mb sb qb c n F m tk ∧ w.heap.size ≤ gb ∧ w.heap.size ≤ mb ∧ Below w.heap.size w w' := by
 obtain ⟨pg, D, t, ml, X, pl, B, h1, h2, h3, h4, h5⟩ := h
 refine (regroup w0 w w 0 0 sb qb c n D pg t ml X 0 B h3 ht h1 h2 hb).mono ?_
 rintro e w' ⟨gb, mb, rfl, hst, hg, hm, hb'⟩
 have := numsF_len h3
 exact ⟨gb, mb, _, rfl, by omega, ⟨pg, D, t, ml, X, pl, hst, h4, h5⟩, hg, hm, hb'⟩
theorem mn_store (w0 w : World) (gb mb sb qb c n : Nat) (F : Mp) (m : Nat) (tk : Int) (key v : List UInt8) (hk : keyOk key) (hv : v.length ≤ 400) (htk : -64 ≤ tk ∧ tk ≤ 0) (h : Mn w0 w gb mb sb qb c n F m tk) :
 Calls Tryz.prog 24 #[.pointer (some ⟨gb, 0, none⟩), .string (str key), .string (str v)] w fun e w' => ∃ (U1 U2 : ByteArray) (xb xz E : Int) (A : Option Addr) (ln cc : Nat), e = .returned (.tuple #[.agg #[.string U1, .string U2, .int .i64 xb, .int .i64 xz], .slice A ln cc, .int .i64 E]) ∧
  ((E = 0 ∧ ∃ x : Cel, U1 = str x.key ∧ U2 = str x.val ∧ xb = x.blob ∧ xz = x.size ∧ Ms w0 w' gb mb sb qb c n F m tk key v x) ∨ E = 6) ∧ Wk w0.heap.size gb mb w w' := by
 obtain ⟨pg, D, t, ml, X, pl, hs, hvt, hm⟩ := h
 refine (store_all hs key v hk hv (by omega)).mono ?_
 rintro e w' ⟨hp, hw⟩
 rcases hp with ⟨x, l, B, cc, pg', ml', rfl, hxk, hxo, hb, _, hst, hsx⟩ | ⟨rfl, _⟩
 · exact ⟨_, _, _, _, 0, B, l.length, cc, rfl, .inl ⟨rfl, x, rfl, rfl, rfl, rfl, pg', D, t, ml', X, pl, l, hst, (hvt.stored l hsx), hm, by rw [hb.len hxo]; exact pgV_le v, hxk, hxo, hb⟩, hw⟩
 · exact ⟨⟨#[]⟩, ⟨#[]⟩, 0, 0, 6, none, 0, 0, rfl, .inr rfl, hw⟩
theorem ms_set (w0 w : World) (gb mb sb qb c n : Nat) (F : Mp) (m : Nat) (tk : Int) (key v : List UInt8) (x : Cel) (hF : F key = none) (htk : -64 ≤ tk ∧ tk ≤ 0) (h : Ms w0 w gb mb sb qb c n F m tk key v x) :
 Calls Tryz.prog 18 #[.pointer (some ⟨gb, 0, none⟩), .agg #[.string (str x.key), .string (str x.val), .int .i64 x.blob, .int .i64 x.size], .bool true] w fun e w' => ∃ E : Int, e = .returned (.int .i64 E) ∧
  ((E = 0 ∧ ∃ tk', Mn w0 w' gb mb sb qb c n (updM F key (some v)) (m + 1) tk') ∨ E = 6) ∧ Wk w0.heap.size gb mb w w' := by
 obtain ⟨pg, D, t, ml, X, pl, l, hs, hvt, hm, hl, hxk, hxo, hb⟩ := h
 subst hxk
 refine (set_okX w0 w gb mb sb qb c n D pg t ml (X ++ l) _ x true hs hxo (by omega) (fun _ => split_law w0 gb mb sb qb c n (X ++ l) _ x.key (by have := ((Cel.ok_iff x).1 hxo).1.2; omega) (by omega))).mono ?_
 rintro e w' ⟨hp, hw⟩
 rcases hp with ⟨rfl, pg', D', t', ml', hst, _, hlk, _, hsx⟩ | ⟨rfl, _⟩
 · have hno : lookT t x.key = none := by
    rcases hvt.look hs.hs.tb x.key with ⟨e, _⟩ | ⟨y, u, e1, e2, e3, _⟩
    · exact e
    · rw [hF] at e3; cases e3
   have hvt2 := (hvt.frame hsx).put hs.hs.tb hst.hs.tb x v l [] hlk (hb.same (fun q hq => hsx q (List.mem_append_right _ hq))) (by rw [List.append_nil])
   rw [plOf_none hno, List.append_nil] at hvt2
   have hc := (cells_put hs.hs.tb hst.hs.tb x hlk).length_eq
   rw [List.length_cons, cells_no hs.hs.tb x.key hno, hm] at hc
   exact ⟨0, rfl, .inl ⟨rfl, _, pg', D', t', ml', X ++ l, _, hst, hvt2, hc⟩, hw⟩
 · exact ⟨6, rfl, .inr rfl, hw⟩
theorem mn_get (w0 w : World) (gb mb sb qb c n : Nat) (F : Mp) (m : Nat) (tk : Int) (key v : List UInt8) (hF : F key = some v) (h : Mn w0 w gb mb sb qb c n F m tk) :
 Calls Tryz.prog 25 #[.pointer (some ⟨gb, 0, none⟩), .string (str key)] w fun e w' => ∃ x : Cel, e = .returned (.tuple #[.agg #[.string (str x.key), .string (str x.val), .int .i64 x.blob, .int .i64 x.size], .int .i64 0]) ∧ Mn w0 w' gb mb sb qb c n F m tk ∧ Below w.heap.size w w' ∧
  ∀ W, Below w'.heap.size w' W → Calls Tryz.prog 26 #[.pointer (some ⟨gb, 0, none⟩), .agg #[.string (str x.key), .string (str x.val), .int .i64 x.blob, .int .i64 x.size]] W fun e w2 => e = .returned (.tuple #[.string (str v), .int .i64 0]) ∧ Mn w0 w2 gb mb sb qb c n F m tk ∧ Below W.heap.size W w2 := by
 have hko := h.keyOk hF
 obtain ⟨pg, D, t, ml, X, pl, hs, hv, hm⟩ := h
 refine (get_vt hs hv key hko).mono ?_
 rintro e w' ⟨hp, hst, hb⟩
 rcases hp with ⟨_, h1, _⟩ | ⟨x, u, rfl, h1, h2, h3, h4, h5, h6⟩
 · rw [hF] at h1; cases h1
 · rw [hF] at h1
   injection h1 with h1
   subst h1
   refine ⟨x, rfl, ⟨pg, D, t, ml, X, pl, hst, hv, hm⟩, hb, fun W hW => ?_⟩
   refine (value_ok w0 W gb mb sb qb c n pg _ x v (pl x) (hst.below hW).gv h4 h6).mono ?_
   rintro e w2 ⟨rfl, hg, hr⟩
   exact ⟨rfl, ⟨pg, D, t, ml, X, pl, ⟨hg, hst.hs⟩, hv, hm⟩, hr.bel⟩
theorem mn_dump (w0 w : World) (gb mb sb qb c n : Nat) (F : Mp) (m : Nat) (tk : Int) (h : Mn w0 w gb mb sb qb c n F m tk) :
 Calls Tryz.prog 19 #[.pointer (some ⟨gb, 0, none⟩)] w fun e w' => ∃ A cap, e = .returned (.tuple #[.slice A m cap, .int .i64 0]) ∧ Mn w0 w' gb mb sb qb c n F m tk ∧ Below w.heap.size w w' := by
 obtain ⟨pg, D, t, ml, X, pl, hs, hv, hm⟩ := h
 refine (dump_ok w0 w gb mb sb qb c n D pg _ t hs.gv hs.hs.tb (vlF F) pl hv.vals).mono ?_
 rintro e w' ⟨A, cap, es, rfl, _, hp, _, hg, hb⟩
 have hlen : es.length = m := by
  have h1 := hp.length_eq
  rw [List.length_map] at h1
  have h2 := (celsF_perm hs.hs.tb).length_eq
  omega
 rw [hlen]
 exact ⟨A, cap, rfl, ⟨pg, D, t, ml, X, pl, ⟨hg, hs.hs⟩, hv, hm⟩, hb⟩
theorem mn_check (w0 w : World) (gb mb sb qb c n : Nat) (F : Mp) (m : Nat) (tk : Int) (h : Mn w0 w gb mb sb qb c n F m tk) :
 Calls Tryz.prog 21 #[.pointer (some ⟨gb, 0, none⟩), .int .i64 n, .slice none 0 0] w fun e w' => e = .returned (.int .i64 0) ∧ Below w.heap.size w w' := by
 obtain ⟨pg, D, t, ml, X, pl, hs, hv, hm⟩ := h
 refine (check_vt hs hv).mono ?_
 rintro e w' ⟨rfl, hst, hb⟩
 exact ⟨rfl, hb⟩
theorem mn_new {w0 w : World} {gb mb sb qb c n : Nat} (h : St w0 w gb mb sb qb c n (pgNew n) 0 t00 (fmtL n) [] (-1)) : Mn w0 w gb mb sb qb c n (fun _ => none) 0 (-1) :=
 ⟨pgNew n, 0, t00, fmtL n, [], fun _ => [], h, vt00 n (pgNew n) _, rfl⟩
end Go.Proofs.YtijhamllnnilbaaGreatDoor.Ha
namespace Go.Proofs.YtijhamllnnilbaaGreatDoor.Ha
open Go.RowKit Go.Proofs.YtijhamllnnilbaaGreatDoor.Mem Go.Proofs.YtijhamllnnilbaaGreatDoor.Pg Go.Proofs.YtijhamllnnilbaaGreatDoor.Kp Go.Proofs.YtijhamllnnilbaaGreatDoor.Sp Go.Proofs.YtijhamllnnilbaaGreatDoor.Gr
set_option linter.unusedSimpArgs false
set_option linter.unusedVariables false
theorem conv1_blk (W : World) (g k : Nat) (hk : k < 256) (h : W.heap[g]? = some (.cells #[.int .u8 (k : Int)] 5 (0, 0))) :
 (convert 43 9 (.slice (some ⟨g, 0, none⟩) 1 1)).run Tryz.prog W = .ok (.string (str [UInt8.ofNat k])) W := conv1 W g 1 k hk ((blk_cell h 0).trans rfl)
set_option maxRecDepth 100000 in
set_option maxHeartbeats 16000000 in
theorem many_any (P Z : Int) (A : Option Addr) (ln cp : Nat) (T : Nat → List UInt8) (w : World) (ht : Tab w) (hT : Txts w A ln T) :
 Calls Tryz.prog 4 #[.int .i64 P, .slice A ln cp, .int .i64 Z] w fun e w' => e = .returned (.bool true) ∧ Below w.heap.size w w' := by
 have Hal := Lib.hid (fun W (k : Tab W) => alive_any W k)
 have Ht := Lib.hid ht
 clear ht
 by_cases g0 : P < 8
 · clear hT
   go_enter Tryz.func4, Tryz.ntmps4
   go_wp2_with fail
   with_reducible refine (Hal.out _ Ht.out).mono ?_
   rintro e w1 ⟨rfl, hb1⟩
   have B1 := Lib.hid hb1
   clear hb1
   go_wp2_with fail
   go_ret
   exact ⟨rfl, B1.out⟩
 · skip
   by_cases g1 : 64 < P
   · clear hT
     go_enter Tryz.func4, Tryz.ntmps4
     go_wp2_with fail
     with_reducible refine (Hal.out _ Ht.out).mono ?_
     rintro e w1 ⟨rfl, hb1⟩
     have B1 := Lib.hid hb1
     clear hb1
     go_wp2_with fail
     go_ret
     exact ⟨rfl, B1.out⟩
   · skip
     by_cases g2 : (100 : Int) < (ln : Int)
     · clear hT
       go_enter Tryz.func4, Tryz.ntmps4
       go_wp2_with fail
       with_reducible refine (Hal.out _ Ht.out).mono ?_
       rintro e w1 ⟨rfl, hb1⟩
       have B1 := Lib.hid hb1
       clear hb1
       go_wp2_with fail
       go_ret
       exact ⟨rfl, B1.out⟩
     · skip
       by_cases g3 : Z < 0
       · clear hT
         go_enter Tryz.func4, Tryz.ntmps4
         go_wp2_with fail
         with_reducible refine (Hal.out _ Ht.out).mono ?_
         rintro e w1 ⟨rfl, hb1⟩
         have B1 := Lib.hid hb1
         clear hb1
         go_wp2_with fail
         go_ret
         exact ⟨rfl, B1.out⟩
       · skip
         by_cases g4 : 60 < Z
         · clear hT
           go_enter Tryz.func4, Tryz.ntmps4
           go_wp2_with fail
           with_reducible refine (Hal.out _ Ht.out).mono ?_
           rintro e w1 ⟨rfl, hb1⟩
           have B1 := Lib.hid hb1
           clear hb1
           go_wp2_with fail
           go_ret
           exact ⟨rfl, B1.out⟩
         · skip
           obtain ⟨n, rfl⟩ : ∃ n : Nat, P = n := ⟨P.toNat, by omega⟩
           obtain ⟨m, rfl⟩ : ∃ m : Nat, Z = m := ⟨Z.toNat, by omega⟩
           have hn8 : 8 ≤ n := by omega
           have hn64 : n ≤ 64 := by omega
           have hln : ln ≤ 100 := by omega
           have hm60 : m ≤ 60 := by omega
           have HT := Lib.hid hT
           have hnew : ∀ W, Tab W → Calls Tryz.prog 14 #[.int .i64 n] W fun e w' => ∃ sb qb c, e = .returned (.pointer (some ⟨sb, 0, none⟩)) ∧ W.heap.size ≤ sb ∧ W.heap.size ≤ qb ∧ Below W.heap.size W w' ∧ Sto w' sb qb n c (-1) (bnew n 3) := fun W h => newT_any n W h hn8 hn64
           have hzer := fun W => refZeros_any m W (by omega)
           have hmk : ∀ W : World, (Instr.makeMap 40 none).run Tryz.prog W = .ok (.map (some W.heap.size)) (W.alloc (.map #[] 0)) := fun W => run_makeMap _ W
           obtain ⟨ZU, hZU⟩ : ∃ U, U = str (zs m) := ⟨_, rfl⟩
           have hzs : ZU.size = m := by rw [hZU, str_size, zs_len]
           rw [← hZU] at hzer
           have HZ : Hid (ZU = str (zs m)) := Lib.hid hZU
           have Hnew := Lib.hid hnew
           have Hzer := Lib.hid hzer
           clear hnew hzer hT hZU
           go_enter Tryz.func4, Tryz.ntmps4
           go_wp2_with fail
           with_reducible refine (Hal.out _ Ht.out).mono ?_
           rintro e wz ⟨rfl, hbz⟩
           have Tz := Lib.hid (Ht.out.below hbz)
           have Bz0 := Lib.hid hbz
           clear hbz
           go_wp2_with fail
           with_reducible refine (Hnew.out _ Tz.out).mono ?_
           rintro e w1 ⟨sb, qb, c, rfl, hsb, hqb, hb1, hs1⟩
           have T1 := Lib.hid (Tz.out.below hb1)
           have S1 := Lib.hid hs1
           have B1 := Lib.hid (below_base Bz0.out Bz0.out.size hb1)
           have hwz := Bz0.out.size
           have hqw : w.heap.size ≤ qb := by omega
           clear hs1 hb1 Hnew hwz
           go_wp2_with fail
           with_reducible refine (newG_any w w1 n sb qb c (bnew n 3) (pgNew n) T1.out S1.out (fun i _ => bnew_shows n i) B1.out).mono ?_
           rintro e w2 ⟨gb, mb, rfl, hgv, hgb, hmb, hb2⟩
           have BB2 := below_al (Below.refl _ w2) (.map #[] 0)
           have M2 : Hid (Mn w (w2.alloc (.map #[] 0)) gb mb sb qb c n (fun _ => none) 0 (-1)) := Lib.hid ((mn_new ⟨hgv, hs_new n hn8 hn64⟩).below BB2)
           have B2 := Lib.hid (below_base (below_base B1.out B1.out.size hb2) (by have h1 := B1.out.size; have h2 := hb2.size; omega) BB2)
           have T2 := Lib.hid (TStr.made w2)
           obtain ⟨hb, hhb⟩ : ∃ hb, hb = w2.heap.size := ⟨_, rfl⟩
           have HB0 : Hid (sb < hb ∧ qb < hb ∧ gb < hb ∧ mb < hb ∧ gtab < hb ∧ w.heap.size ≤ hb) := Lib.hid (by
            have h1 := hgv.lt
            have h2 := hgv.ord
            have h3 := hgv.bel.size
            omega)
           rw [← hhb] at T2
           have HHB : Hid (hb = w2.heap.size) := Lib.hid hhb
           have HQ : Hid (w.heap.size ≤ qb) := Lib.hid hqw
           clear hgv hgb hmb hb2 hsb hqb hqw S1 B1 T1 Tz Bz0 BB2 hhb
           go_upto_block 0 with fail
           rw [← HHB.out]
           go_cut [8] (fun v8 V => ∃ (gb mb m' : Nat) (F : Mp) (tk : Int), v8 = .pointer (some ⟨gb, 0, none⟩) ∧ Hid (Mn w V gb mb sb qb c n F m' tk) ∧ Hid (TStr V hb F m') ∧ Hid (Below w.heap.size w V))
           case first =>
            go_wp2_with fail
            go_loopg [8, 60] ln (fun g v8 v60 wr => ∃ (gb mb k m' : Nat) (F : Mp) (tk : Int), v8 = .pointer (some ⟨gb, 0, none⟩) ∧ v60 = .int .i64 (k : Nat) ∧ g + k = ln ∧ Hid (m' ≤ k) ∧ Hid (Mn w wr gb mb sb qb c n F m' tk) ∧ Hid (TStr wr hb F m') ∧ Hid (Below w.heap.size w wr))
            case atStart => exact ⟨gb, mb, 0, 0, _, -1, rfl, rfl, by omega, Lib.hid (Nat.le_refl 0), M2, T2, B2⟩
            case round =>
             clear M2 T2 B2
             obtain ⟨gb1, mb1, k, m', F, tk, rfl, rfl, hk, LE, M4, T4, B4⟩ := hrel
             by_cases hlt : k < ln
             · have hkI : (k : Int) < (ln : Int) := by omega
               have i1 : IntKind.i64.wrap ((k : Int) + 1) = (k : Int) + 1 := IntWalk.i64_in _ (by omega)
               have i2 : IntKind.u8.wrap (k : Int) = (k : Int) := IntWalk.u8_in _ (by omega)
               obtain ⟨kb, ko, hA, hkb, hc⟩ := HT.out.2 (by omega)
               subst hA
               have hsz := HT.out.1 k hlt
               have cK := (B4.out.cell hkb).trans (hc k hlt)
               have lK := Nat.lt_of_lt_of_le hkb B4.out.size
               obtain ⟨q, hq⟩ : ∃ q, q = T k := ⟨_, rfl⟩
               rw [← hq] at cK hsz
               have hkey := fun W => key_any q W
               obtain ⟨vv, hvv⟩ : ∃ v : List UInt8, v = zs m ++ [UInt8.ofNat k] := ⟨_, rfl⟩
               have hvl : vv.length ≤ 61 := by rw [hvv, List.length_append, zs_len]; simp; omega
               have hst : ∀ W gb mb tk, keyOk q → (-64 ≤ tk ∧ tk ≤ 0) → Mn w W gb mb sb qb c n F m' tk → _ := fun W gb mb tk h1 h2 h3 => mn_store w W gb mb sb qb c n F m' tk q vv h1 (by omega) h2 h3
               have hlk := fun W (h : TStr W hb F m') => h.look q hsz
               have hpu := fun W (h : TStr W hb F m') (h0 : F q = none) => h.put q vv hsz (by omega) h0 (by have := LE.out; omega)
               obtain ⟨VU, hVU⟩ : ∃ U, U = str vv := ⟨_, rfl⟩
               have HVU : Hid (ZU ++ str [UInt8.ofNat k] = VU) := Lib.hid (by rw [HZ.out, hVU, hvv, str_app])
               obtain ⟨U, hU⟩ : ∃ U, U = str q := ⟨_, rfl⟩
               simp only [← hVU] at hst hpu
               rw [← hU] at cK
               simp only [← hU] at hkey hst hlk hpu
               have Hkey := Lib.hid hkey
               have Hst := Lib.hid hst
               have Hlk := Lib.hid hlk
               have Hpu := Lib.hid hpu
               clear hkey hst hlk hpu hq hc hsz hvl hvv hVU hU
               go_wp2_with fail
               with_reducible refine (Hkey.out _).mono ?_
               rintro e w5 ⟨rfl, rfl⟩
               by_cases hko : keyOk q
               · rw [decide_eq_true hko]
                 have HKO := Lib.hid hko
                 have hin := mn_into w w5 gb1 mb1 sb qb c n F m' tk (by omega) M4.out
                 clear hko cK lK
                 go_wp2_with fail
                 with_reducible refine hin.mono ?_
                 rintro e w6 ⟨rfl, hmo, ht6, hk6⟩
                 have B6 := Lib.hid (below_keep B4.out B4.out.size hk6 (by rintro i rfl; exact HQ.out))
                 have T6 := Lib.hid (T4.out.keep hk6 (fun e => by have := HB0.out; omega))
                 have MO6 := Lib.hid hmo
                 have TB6 := Lib.hid ht6
                 have hnw := mo_new w w6 sb qb c n F m' MO6.out TB6.out B6.out
                 clear hin hmo ht6 hk6 M4 T4 B4
                 go_wp2_with fail
                 with_reducible refine hnw.mono ?_
                 rintro e w7 ⟨gb2, mb2, tk2, rfl, htk, hmn, hgb2, hmb2, hb7⟩
                 have h67 := T6.out.lt
                 have HG2 : Hid (hb < gb2 ∧ hb < mb2) := Lib.hid (by omega)
                 have M7 := Lib.hid hmn
                 have T7 := Lib.hid (T6.out.below hb7)
                 have MO7 := Lib.hid (MO6.out.below hb7)
                 have B7 := Lib.hid (below_base B6.out B6.out.size hb7)
                 have HTK := Lib.hid htk
                 clear hnw hmn hgb2 hmb2 hb7 h67 htk MO6 TB6 T6 B6
                 go_upto_region 15 with fail
                 go_cut [12] (fun v12 V => v12 = .string VU ∧ Hid (Below w7.heap.size w7 V))
                 case first =>
                  refine wp_region_held_drew (S := (Bz w7)) (by kernel_rfl) (below_dr (Below.refl _ _)) (fun hHeld => ?_)
                  refine Ra.W 0 ?_ ?_ hHeld ?_
                  rotate_left
                  · intro wq hSw
                    go_simp
                    try with_reducible rfl
                  try simp only [Act.put, List.getElem_toArray, List.getElem_cons_succ, List.getElem_cons_zero, List.setIfInBounds_toArray, List.set_cons_zero, List.set_cons_succ]
                  refine Ra.W 2 ?_ ?_ hHeld ?_
                  rotate_left
                  · intro wq hSw
                    go_simp
                    try with_reducible rfl
                  try simp only [Act.put, List.getElem_toArray, List.getElem_cons_succ, List.getElem_cons_zero, List.setIfInBounds_toArray, List.set_cons_zero, List.set_cons_succ]
                  refine Ra.W 3 ?_ ?_ hHeld ?_
                  rotate_left
                  · intro wq hSw
                    try dsimp only at hSw
                    go_simp
                    try rw [if_neg (by omega)]
                    try rw [if_pos (by omega)]
                    try with_reducible rfl
                  try simp only [Act.put, List.getElem_toArray, List.getElem_cons_succ, List.getElem_cons_zero, List.setIfInBounds_toArray, List.set_cons_zero, List.set_cons_succ]
                  refine wpAnyH_ready (rs := [1, 4]) (by kernel_rfl) (by simp) ?_
                  refine AllReadyH.cons rfl (fun K hK => ?_) (AllReadyH.cons rfl (fun K hK => ?_) AllReadyH.nil)
                  · rw [if_pos (by kernel_rfl)]
                    go_simp
                    (with_reducible refine (Hzer.out _).mono ?_)
                    rintro e w8 ⟨rfl, hb8⟩
                    go_simp
                    refine hK.out _ _ (below_tr hHeld hb8) (fun hHeld2 => ?_)
                    clear hK K
                    try clear hHeld
                    have hHeld := hHeld2
                    try clear hHeld2
                    refine wpAnyH_ready (rs := [4]) (by kernel_rfl) (by simp) ?_
                    refine AllReadyH.cons rfl (fun K hK => ?_) AllReadyH.nil
                    rw [if_pos (by kernel_rfl)]
                    go_simp
                    skip
                    refine hK.out _ _ (below_al hHeld _) (fun hHeld2 => ?_)
                    clear hK K
                    try clear hHeld
                    have hHeld := hHeld2
                    try clear hHeld2
                    refine wpAnyH_ready (rs := [5]) (by kernel_rfl) (by simp) ?_
                    refine AllReadyH.cons rfl (fun K hK => ?_) AllReadyH.nil
                    rw [if_pos (by kernel_rfl)]
                    go_simp
                    rw [conv1_blk _ w8.heap.size k (by omega) (heap_alloc_new w8 _)]
                    go_simp
                    refine hK.out _ _ (hHeld) (fun hHeld2 => ?_)
                    clear hK K
                    try clear hHeld
                    have hHeld := hHeld2
                    try clear hHeld2
                    refine Ra.W 6 ?_ ?_ hHeld ?_
                    rotate_left
                    · intro wq hSw
                      go_simp
                      try rw [if_neg (by omega)]
                      try rw [if_pos (by omega)]
                      try with_reducible rfl
                    try simp only [Act.put, List.getElem_toArray, List.getElem_cons_succ, List.getElem_cons_zero, List.setIfInBounds_toArray, List.set_cons_zero, List.set_cons_succ]
                    refine Ra.W 7 ?_ ?_ hHeld ?_
                    rotate_left
                    · intro wq hSw
                      go_simp
                      try with_reducible rfl
                    try simp only [Act.put, List.getElem_toArray, List.getElem_cons_succ, List.getElem_cons_zero, List.setIfInBounds_toArray, List.set_cons_zero, List.set_cons_succ]
                    refine wpAnyH_done (by kernel_rfl) ?_ _
                    have HH := Lib.hid hHeld
                    clear hHeld
                    go_wp2_with fail
                    go_meet
                    exact ⟨congrArg Value.string HVU.out, HH⟩
                  · rw [if_pos (by kernel_rfl)]
                    go_simp
                    skip
                    refine hK.out _ _ (below_al hHeld _) (fun hHeld2 => ?_)
                    clear hK K
                    try clear hHeld
                    have hHeld := hHeld2
                    try clear hHeld2
                    refine wpAnyH_ready (rs := [1, 5]) (by kernel_rfl) (by simp) ?_
                    refine AllReadyH.cons rfl (fun K hK => ?_) (AllReadyH.cons rfl (fun K hK => ?_) AllReadyH.nil)
                    · rw [if_pos (by kernel_rfl)]
                      go_simp
                      (with_reducible refine (Hzer.out _).mono ?_)
                      rintro e w8 ⟨rfl, hb8⟩
                      have hz8 := blk_keep (w := (w7.alloc (.cells #[.int .u8 (k : Int)] 5 (0, 0))).drew) (heap_alloc_new w7 (.cells #[.int .u8 (k : Int)] 5 (0, 0))) hb8
                      go_simp
                      refine hK.out _ _ (below_tr hHeld hb8) (fun hHeld2 => ?_)
                      clear hK K
                      try clear hHeld
                      have hHeld := hHeld2
                      try clear hHeld2
                      refine wpAnyH_ready (rs := [5]) (by kernel_rfl) (by simp) ?_
                      refine AllReadyH.cons rfl (fun K hK => ?_) AllReadyH.nil
                      rw [if_pos (by kernel_rfl)]
                      go_simp
                      rw [conv1_blk _ w7.heap.size k (by omega) hz8]
                      go_simp
                      refine hK.out _ _ (hHeld) (fun hHeld2 => ?_)
                      clear hK K
                      try clear hHeld
                      have hHeld := hHeld2
                      try clear hHeld2
                      refine Ra.W 6 ?_ ?_ hHeld ?_
                      rotate_left
                      · intro wq hSw
                        go_simp
                        try rw [if_neg (by omega)]
                        try rw [if_pos (by omega)]
                        try with_reducible rfl
                      try simp only [Act.put, List.getElem_toArray, List.getElem_cons_succ, List.getElem_cons_zero, List.setIfInBounds_toArray, List.set_cons_zero, List.set_cons_succ]
                      refine Ra.W 7 ?_ ?_ hHeld ?_
                      rotate_left
                      · intro wq hSw
                        go_simp
                        try with_reducible rfl
                      try simp only [Act.put, List.getElem_toArray, List.getElem_cons_succ, List.getElem_cons_zero, List.setIfInBounds_toArray, List.set_cons_zero, List.set_cons_succ]
                      refine wpAnyH_done (by kernel_rfl) ?_ _
                      have HH := Lib.hid hHeld
                      clear hHeld
                      go_wp2_with fail
                      go_meet
                      exact ⟨congrArg Value.string HVU.out, HH⟩
                    · rw [if_pos (by kernel_rfl)]
                      go_simp
                      rw [conv1_blk (w7.alloc (.cells #[.int .u8 (k : Int)] 5 (0, 0))).drew w7.heap.size k (by omega) (heap_alloc_new w7 _)]
                      go_simp
                      refine hK.out _ _ (hHeld) (fun hHeld2 => ?_)
                      clear hK K
                      try clear hHeld
                      have hHeld := hHeld2
                      try clear hHeld2
                      refine wpAnyH_ready (rs := [1]) (by kernel_rfl) (by simp) ?_
                      refine AllReadyH.cons rfl (fun K hK => ?_) AllReadyH.nil
                      rw [if_pos (by kernel_rfl)]
                      go_simp
                      (with_reducible refine (Hzer.out _).mono ?_)
                      rintro e w8 ⟨rfl, hb8⟩
                      go_simp
                      refine hK.out _ _ (below_tr hHeld hb8) (fun hHeld2 => ?_)
                      clear hK K
                      try clear hHeld
                      have hHeld := hHeld2
                      try clear hHeld2
                      refine Ra.W 6 ?_ ?_ hHeld ?_
                      rotate_left
                      · intro wq hSw
                        go_simp
                        try rw [if_neg (by omega)]
                        try rw [if_pos (by omega)]
                        try with_reducible rfl
                      try simp only [Act.put, List.getElem_toArray, List.getElem_cons_succ, List.getElem_cons_zero, List.setIfInBounds_toArray, List.set_cons_zero, List.set_cons_succ]
                      refine Ra.W 7 ?_ ?_ hHeld ?_
                      rotate_left
                      · intro wq hSw
                        go_simp
                        try with_reducible rfl
                      try simp only [Act.put, List.getElem_toArray, List.getElem_cons_succ, List.getElem_cons_zero, List.setIfInBounds_toArray, List.set_cons_zero, List.set_cons_succ]
                      refine wpAnyH_done (by kernel_rfl) ?_ _
                      have HH := Lib.hid hHeld
                      clear hHeld
                      go_wp2_with fail
                      go_meet
                      exact ⟨congrArg Value.string HVU.out, HH⟩
                 case rest =>
                  obtain ⟨rfl, B8c⟩ := hcut
                  have M8 := Lib.hid (M7.out.below B8c.out)
                  have T8 := Lib.hid (T7.out.below B8c.out)
                  have MO8 := Lib.hid (MO7.out.below B8c.out)
                  have B8 := Lib.hid (below_base B7.out B7.out.size B8c.out)
                  have hl8 := Hlk.out wc T8.out
                  clear M7 T7 MO7 B7 B8c Hlk
                  rcases hF : F q with _ | v0
                  · rw [hF] at hl8
                    simp only [Option.getD_none, Option.isSome_none] at hl8
                    have HF := Lib.hid hF
                    have hs8 := Hst.out wc gb2 mb2 tk2 HKO.out HTK.out M8.out
                    clear hF Hst
                    go_wp2_with fail
                    with_reducible refine hs8.mono ?_
                    rintro e w9 ⟨U1, U2, xb, xz, E, A9, l9, c9, rfl, hor, wk9⟩
                    have hsb := M8.out.ord
                    have BB9 := below_al (Below.refl _ w9) (celO U1 U2 xb xz)
                    have KK9 := wk9.keep
                    have MO9 := Lib.hid ((MO8.out.keep KK9 (by rintro (h | h) <;> omega) (by rintro (h | h) <;> omega)).below BB9)
                    have T9 := Lib.hid ((T8.out.keep KK9 (by have := HG2.out; rintro (h | h) <;> omega)).below BB9)
                    have B9a := below_keep B8.out B8.out.size KK9 (by rintro i (rfl | rfl) <;> omega)
                    have B9 := Lib.hid (below_base B9a B9a.size BB9)
                    have Z9 := heap_alloc_new w9 (celO U1 U2 xb xz)
                    have c9 := blk_cell Z9
                    have l9 := lt_of_block Z9
                    have HSB := Lib.hid hsb
                    rcases hor with ⟨rfl, x, rfl, rfl, rfl, rfl, hms⟩ | rfl
                    · have hset := ms_set w (w9.alloc (celO (str x.key) (str x.val) x.blob x.size)) gb2 mb2 sb qb c n F m' tk2 q vv x HF.out HTK.out (hms.below BB9)
                      clear hl8 hs8 hms wk9 hsb BB9 KK9 B9a Z9 M8 T8 MO8 B8
                      go_wp2_with fail
                      with_reducible refine hset.mono ?_
                      rintro e w10 ⟨E2, rfl, hor2, wk10⟩
                      have hsb := HSB.out
                      have KK10 := wk10.keep
                      have MO10 := Lib.hid (MO9.out.keep KK10 (by rintro (h | h) <;> omega) (by rintro (h | h) <;> omega))
                      have T10 := Lib.hid (T9.out.keep KK10 (by have := HG2.out; rintro (h | h) <;> omega))
                      have B10 := Lib.hid (below_keep B9.out B9.out.size KK10 (by rintro i (rfl | rfl) <;> omega))
                      clear hset wk10 KK10 hsb MO9 T9 B9 c9 l9
                      rcases hor2 with ⟨rfl, tk3, hmn⟩ | rfl
                      · obtain ⟨wm, hrun, hts, hgm⟩ := Hpu.out w10 T10.out HF.out
                        have KM := Keep.grown (S := fun i => i = hb) hgm (fun j hj => by injection hj with hj; exact hj.symm)
                        have MM : Hid (Mn w wm gb2 mb2 sb qb c n (updM F q (some vv)) (m' + 1) tk3) := Lib.hid (hmn.keep KM (by rintro i rfl; have := HB0.out; have := HG2.out; omega))
                        have TM := Lib.hid hts
                        have BM := Lib.hid (below_keep B10.out B10.out.size KM (by rintro i rfl; have := HB0.out; omega))
                        have LM : Hid (m' + 1 ≤ k + 1) := Lib.hid (by have := LE.out; omega)
                        clear hmn hts hgm KM T10 B10 MO10 Hpu
                        go_wp2_with fail
                        go_roundg (gk - 1)
                        case measure => omega
                        case rel => exact ⟨gb2, mb2, k + 1, m' + 1, _, tk3, rfl, by go_num, by omega, LM, MM, TM, BM⟩
                      · have hnw := mo_new w w10 sb qb c n F m' MO10.out (Ht.out.below B10.out) B10.out
                        clear Hpu
                        go_wp2_with fail
                        with_reducible refine hnw.mono ?_
                        rintro e w11 ⟨gb3, mb3, tk3, rfl, htk, hmn, hgb3, hmb3, hb11⟩
                        have M11 := Lib.hid hmn
                        have T11 := Lib.hid (T10.out.below hb11)
                        have B11 := Lib.hid (below_base B10.out B10.out.size hb11)
                        clear hnw hmn hgb3 hmb3 hb11 htk T10 B10
                        go_wp2_with fail
                        go_meet
                        exact ⟨gb3, mb3, m', F, tk3, rfl, M11, T11, B11⟩
                    · have hnw := mo_new w (w9.alloc (celO U1 U2 xb xz)) sb qb c n F m' MO9.out (Ht.out.below B9.out) B9.out
                      clear hl8 hs8 wk9 hsb BB9 KK9 B9a Z9 M8 T8 MO8 B8 Hpu
                      go_wp2_with fail
                      with_reducible refine hnw.mono ?_
                      rintro e w11 ⟨gb3, mb3, tk3, rfl, htk, hmn, hgb3, hmb3, hb11⟩
                      have M11 := Lib.hid hmn
                      have T11 := Lib.hid (T9.out.below hb11)
                      have B11 := Lib.hid (below_base B9.out B9.out.size hb11)
                      clear hnw hmn hgb3 hmb3 hb11 htk T9 B9 c9 l9
                      go_wp2_with fail
                      go_meet
                      exact ⟨gb3, mb3, m', F, tk3, rfl, M11, T11, B11⟩
                  · rw [hF] at hl8
                    simp only [Option.getD_some, Option.isSome_some] at hl8
                    have LM : Hid (m' ≤ k + 1) := Lib.hid (by have := LE.out; omega)
                    clear hF Hst Hpu
                    generalize str v0 = V0 at hl8
                    go_wp2_with fail
                    go_roundg (gk - 1)
                    case measure => omega
                    case rel => exact ⟨gb2, mb2, k + 1, m', F, tk2, rfl, by go_num, by omega, LM, M8, T8, B8⟩
               · rw [decide_eq_false hko]
                 clear hko
                 go_wp2_with fail
                 go_ret
                 exact ⟨rfl, B4.out⟩
             · have hkn : ¬ (k : Int) < (ln : Int) := by omega
               clear HT
               go_wp2_with fail
               go_meet
               exact ⟨gb1, mb1, m', F, tk, rfl, M4, T4, B4⟩
           case rest =>
            obtain ⟨gbc, mbc, mc, F, tk, rfl, MC, TC, BC⟩ := hcut
            have hgt := fun q v (hF : F q = some v) W (h : Mn w W gbc mbc sb qb c n F mc tk) => mn_get w W gbc mbc sb qb c n F mc tk q v hF h
            have Hgt := Lib.hid hgt
            clear M2 T2 B2 hgt HT Hal Ht Hzer HZ hmk
            go_wp2_with (first | (at_range; refine wpList_range_t _ rfl _ rfl hb mc F rfl TC.out ?_; intro w5 cnt0 hrg0 hg0 hs0) | fail)
            have KR := Keep.grown (S := fun _ => False) hg0 (fun j hj => by cases hj)
            have M5 := Lib.hid (MC.out.keep KR (fun i hi => hi.elim))
            have B5 := Lib.hid (below_keep BC.out BC.out.size KR (fun i hi => hi.elim))
            have R5 := Lib.hid hrg0
            have hrb : w.heap.size ≤ wc.heap.size := BC.out.size
            have hrl := MC.out.ord
            obtain ⟨rb, hrbe⟩ : ∃ rb, rb = wc.heap.size := ⟨_, rfl⟩
            rw [← hrbe] at R5 hrb hrl
            have HRL := Lib.hid hrl
            have HRB := Lib.hid hrb
            clear hrg0 hg0 hs0 KR hrl hrb MC TC BC
            rw [← hrbe]
            clear hrbe
            simp only [Act.put, List.setIfInBounds_toArray, List.set_cons_zero, List.set_cons_succ]
            go_loopw [18] (fun _ wr => ∃ cnt : Nat, Hid (TRng wr hb rb F mc cnt) ∧ Hid (Mn w wr gbc mbc sb qb c n F mc tk) ∧ Hid (Below w.heap.size w wr)) (fun _ wr => wr.rangeLeft hb rb)
            case atStart => exact ⟨cnt0, R5, M5, B5⟩
            case round =>
             clear R5 M5 B5
             obtain ⟨cnt, R6, M6, B6⟩ := hrel
             go_wp2_with (first | (at_next; refine wpList_next_t _ rfl _ rfl hb rb mc cnt F rfl R6.out ?_ (fun q x w7 cnt7 hq hrg7 hlt7 hg7 hs7 hen => ?_)) | fail)
             · have hd := mn_dump w wr gbc mbc sb qb c n F mc tk M6.out
               with_reducible refine hd.mono ?_
               rintro e w7 ⟨A7, c7, rfl, hmn, hb7⟩
               have hc := mn_check w w7 gbc mbc sb qb c n F mc tk hmn
               have hlen := fun ty => (R6.out.map.below hb7).len ty
               have B7 := Lib.hid (below_base B6.out B6.out.size hb7)
               clear hd hmn hb7 R6 M6 B6 Hgt
               go_wp2_with fail
               with_reducible refine hc.mono ?_
               rintro e w8 ⟨rfl, hb8⟩
               have B8 := Lib.hid (below_base B7.out B7.out.size hb8)
               clear hc hb8 hlen B7
               go_wp2_with fail
               go_ret
               exact ⟨rfl, B8.out⟩
             · have K7 := Keep.grown (S := fun i => i = rb) hg7 (fun j hj => by injection hj with hj; exact hj.symm)
               have M7 := Lib.hid (M6.out.keep K7 (by rintro i rfl; have := HRL.out; have := HRB.out; omega))
               have B7 := Lib.hid (below_keep B6.out B6.out.size K7 (by rintro i rfl; exact HRB.out))
               have R7 := Lib.hid hrg7
               have hg := Hgt.out q x hq _ M7.out
               have HLT := Lib.hid hlt7
               obtain ⟨U, hU⟩ : ∃ U, U = str q := ⟨_, rfl⟩
               obtain ⟨VX, hVX⟩ : ∃ U, U = str x := ⟨_, rfl⟩
               rw [← hU] at hg
               simp only [← hVX] at hg
               rw [← hU, ← hVX]
               clear hU hVX hen hrg7 hlt7 hg7 hs7 K7 M6 B6 hq
               with_reducible refine hg.mono ?_
               rintro e w8 ⟨y, rfl, hmn8, hb8, hval⟩
               have BB8 := below_al (Below.refl _ w8) (celO (str y.key) (str y.val) y.blob y.size)
               have hv8 := hval _ BB8
               have B8 := Lib.hid (below_base B7.out B7.out.size (below_al hb8 (celO (str y.key) (str y.val) y.blob y.size)))
               have R8 := Lib.hid ((R7.out.below hb8).below BB8)
               have Z8 := heap_alloc_new w8 (celO (str y.key) (str y.val) y.blob y.size)
               have cz := blk_cell Z8
               have lz := lt_of_block Z8
               clear hmn8 hb8 BB8 hg hval M7 B7 Z8 R7
               go_wp2_with fail
               with_reducible refine hv8.mono ?_
               rintro e w9 ⟨rfl, hmn9, hb9⟩
               have M9 := Lib.hid hmn9
               have B9 := Lib.hid (below_base B8.out B8.out.size hb9)
               have R9 := Lib.hid (R8.out.below hb9)
               clear hv8 hmn9 hb9 B8 R8 cz lz
               go_wp2_with fail
               refine ⟨⟨cnt7, R9, M9, B9⟩, ?_⟩
               have h1 := R9.out.left_eq
               have h2 := R6.out.left_eq
               have h3 := HLT.out
               omega
theorem many_law (P : Int) (A : Option Addr) (n cp : Nat) (Tx : Nat → ByteArray) (z : Int) (w : World) (ht : Tab w) (hn64 : n ≤ maxLen) (hs : ∀ j, j < n → (Tx j).size ≤ maxLen) (hT : 0 < n → ∃ b off, A = some ⟨b, off, none⟩ ∧ b < w.heap.size ∧ ∀ j, j < n → w.cell? ⟨b, off + j, none⟩ = some (.string (Tx j))) :
 Calls Tryz.prog 4 #[.int .i64 P, .slice A n cp, .int .i64 z] w fun e w' => e = .returned (.bool true) ∧ Below w.heap.size w w' :=
 many_any P z A n cp (fun j => (Tx j).data.toList) w ht ⟨fun j hj => by rw [← str_of]; exact hs j hj, fun h0 => by
  obtain ⟨b, off, h1, h2, h3⟩ := hT h0
  exact ⟨b, off, h1, h2, fun j hj => by rw [← str_of]; exact h3 j hj⟩⟩
end Go.Proofs.YtijhamllnnilbaaGreatDoor.Ha
