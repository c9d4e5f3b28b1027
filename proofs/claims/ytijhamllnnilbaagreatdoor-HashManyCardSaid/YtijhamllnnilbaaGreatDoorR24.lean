/- Lemmas of the claim, in their order:
- The contracts of hash's fit, cut of a bucket, more.
-/
import Derived.Test.YtijhamllnnilbaaGreatDoorR23
set_option linter.unusedVariables false
set_option linter.unusedSimpArgs false
namespace Go.Proofs.YtijhamllnnilbaaGreatDoor.Ha
open Go.RowKit Go.Proofs.YtijhamllnnilbaaGreatDoor.Mem Go.Proofs.YtijhamllnnilbaaGreatDoor.Pg Go.Proofs.YtijhamllnnilbaaGreatDoor.Kp Go.Proofs.YtijhamllnnilbaaGreatDoor.Sp Go.Proofs.YtijhamllnnilbaaGreatDoor.Gr
set_option linter.unusedSimpArgs false
set_option linter.unusedVariables false
abbrev pagC (q : Pag) (l : List Cel) : Pag := ⟨q.k, q.d, q.x, bodyF l⟩
theorem pagC_ok {q : Pag} {l : List Cel} (h : q.ok) (hl : Fits l) : (pagC q l).ok := by
 obtain ⟨h1, h2, h3, h4, h5, h6, _⟩ := h
 exact ⟨h1, h2, h3, h4, h5, h6, bodyF_len hl⟩
theorem ChF.keep {C : Nat} {S : Nat → Prop} {w w' : World} {cb gb nb pb cn cp : Nat} {L : List (Nat × Pag)} (h : ChF C w cb gb nb pb cn cp L) (k : Keep S w w') (h1 : ¬ S cb) (h2 : ¬ S nb) (h3 : ¬ S pb) : ChF C w' cb gb nb pb cn cp L :=
 ⟨k.blk h.blk h1, h.cbn, h.cbp, h.nC, h.pC, Nat.lt_of_lt_of_le h.nl k.size, Nat.lt_of_lt_of_le h.pl k.size, fun i m p hi => (k.cell h.nl h2).trans (h.num i m p hi), fun i m p hi =>
  have a := h.pag i m p hi
  ⟨(k.cell h.pl h3).trans a.1, (k.cell h.pl h3).trans a.2.1, (k.cell h.pl h3).trans a.2.2.1, (k.cell h.pl h3).trans a.2.2.2⟩⟩
theorem Ch.pb_ge {C : Nat} {w : World} {cb gb : Nat} {L : List (Nat × Pag)} (h : Ch C w cb gb L) (hL : 0 < L.length) {nv : Value} {pb l c : Nat} (hb : w.heap[cb]? = some (chO gb nv (.slice (some ⟨pb, 0, none⟩) l c))) : C ≤ pb := by
 obtain ⟨nb, pb', cn, cp, hf⟩ := h.form hL
 have h1 := hf.blk
 rw [hb] at h1
 injection h1 with h1
 injection h1 with h1
 simp only [Array.mk.injEq, List.cons.injEq, Value.slice.injEq, Option.some.injEq, Addr.mk.injEq] at h1
 have := hf.pC
 have := h1.2.2.1.1.1
 omega
theorem Pk.blk {C gb mb cb : Nat} {w w' : World} {L : List (Nat × Pag)} (k : Pk gb mb cb w w') (h : Ch C w cb gb L) (hL : 0 < L.length) {g : Nat} {Y : Obj} (hx : w.heap[g]? = some Y) (h1 : g ≠ gb) (h2 : g ≠ mb) (h3 : g < C) : w'.heap[g]? = some Y := by
 obtain ⟨nv, pb, l, c, hb, kp⟩ := k
 have := h.pb_ge hL hb
 exact kp.blk hx (by rintro (h | h | h); exact h1 h; exact h2 h; omega)
theorem Pk.of_below {C gb mb cb : Nat} {w w1 w' : World} {L : List (Nat × Pag)} (h : Ch C w cb gb L) (hL : 0 < L.length) (b : Below w.heap.size w w1) (k : Pk gb mb cb w1 w') : Pk gb mb cb w w' := by
 obtain ⟨nv, pb, l, c, hb, kp⟩ := k
 obtain ⟨nb, pb', cn, cp, hf⟩ := h.form hL
 have h1 := blk_keep hf.blk b
 rw [hb] at h1
 refine ⟨nv, pb, l, c, by rw [hf.blk, ← h1], (Keep.of_below b).trans kp⟩
abbrev Bz (a b : World) : Prop := Below a.heap.size a b
def NoFit (x : Cel) (ps : List (Nat × List Cel)) : Prop := ∀ (i m : Nat) (cs : List Cel), ps[i]? = some (m, cs) → ¬ szs (ins x cs) ≤ 239
def FitPost (w0 w : World) (gb mb sb qb c n cb C : Nat) (pg : Nat → Pag) (tk : Int) (L : List (Nat × Pag)) (ps : List (Nat × List Cel)) (x : Cel) (e : Ending) (w' : World) : Prop :=
 (∃ j m q cs, L[j]? = some (m, q) ∧ ps[j]? = some (m, cs) ∧ szs (ins x cs) ≤ 239 ∧ (∀ i, i < j → ∀ (m : Nat) (cs : List Cel), ps[i]? = some (m, cs) → ¬ szs (ins x cs) ≤ 239) ∧ e = .returned (.tuple #[.bool true, .int .i64 0]) ∧
  Ch C w' cb gb (L.set j (m, pagC q (ins x cs))) ∧ GV w0 w' gb mb sb qb c n (updN pg m (pagC q (ins x cs))) tk ∧ Ck w0.heap.size gb mb C w w') ∨
 (NoFit x ps ∧ e = .returned (.tuple #[.bool false, .int .i64 0]) ∧ Below w.heap.size w w')
set_option maxRecDepth 100000 in
set_option maxHeartbeats 4000000 in
theorem cfit_ok (w0 w : World) (gb mb sb qb c n cb C : Nat) (pg : Nat → Pag) (tk : Int) (L : List (Nat × Pag)) (ps : List (Nat × List Cel)) (x : Cel) (h : GV w0 w gb mb sb qb c n pg tk) (hc : Ch C w cb gb L) (hC : w0.heap.size ≤ C ∧ gb < C ∧ mb < C)
 (hb : BkL L ps) (hx : x.ok) (hpos : 0 < L.length) (hL : L.length ≤ 64) (hm : ∀ (i m : Nat) (q : Pag), L[i]? = some (m, q) → m < n ∧ q.ok) :
 Calls Tryz.prog 56 #[.pointer (some ⟨cb, 0, none⟩), x.v] w fun e w' => FitPost w0 w gb mb sb qb c n cb C pg tk L ps x e w' := by
 have hlen := hb.len
 have Hset := fun p cs (hp : Bkt p cs) W => bset_any p cs x hp hx W
 have Hput := fun W (i m : Nat) (q p : Pag) (hW : GV w0 W gb mb sb qb c n pg tk) (hcW : Ch C W cb gb L) (hi : L[i]? = some (m, q)) (hp : p.ok) => cput_ok w0 W gb mb sb qb c n cb C i m pg tk L p q hW hcW hC hi (hm i m q hi).1 hp (by omega)
 obtain ⟨nb, pb, cn, cp, hf⟩ := hc.form hpos
 have Hins : ∀ cs, Fits cs → szs (ins x cs) ≤ 239 → Fits (ins x cs) := fun cs hcs hs => hcs.ins hx hs
 have HX := Lib.hid hx
 simp only [Cel.v] at Hset ⊢
 obtain ⟨U1, hU1⟩ : ∃ U, U = str x.key := ⟨_, rfl⟩
 obtain ⟨U2, hU2⟩ : ∃ U, U = str x.val := ⟨_, rfl⟩
 obtain ⟨xb, hxb⟩ : ∃ b : Int, b = x.blob := ⟨_, rfl⟩
 obtain ⟨xz, hxz⟩ : ∃ b : Int, b = x.size := ⟨_, rfl⟩
 rw [← hU1, ← hU2, ← hxb, ← hxz] at Hset ⊢
 have HB := Lib.hid hb
 have HM := Lib.hid hm
 have HI := Lib.hid Hins
 have HS := Lib.hid Hset
 have HP := Lib.hid Hput
 have F := Lib.hid hf
 have CH := Lib.hid hc
 have G := Lib.hid h
 have B0 := Lib.hid (below_al (Below.refl _ w) (celO U1 U2 xb xz))
 have Z0 := Lib.hid (heap_alloc_new w (celO U1 U2 xb xz))
 have F0 := Lib.hid (F.out.below B0.out)
 have N0 : Hid (∀ i, i < 0 → ∀ (m : Nat) (cs : List Cel), ps[i]? = some (m, cs) → ¬ szs (ins x cs) ≤ 239) := Lib.hid (fun i h => absurd h (Nat.not_lt_zero i))
 have cc := blk_cell F0.out.blk
 have lc := lt_of_block F0.out.blk
 clear hU1 hU2 hxb hxz hx hb hm Hins Hset Hput hf hc h F0
 go_enter Tryz.func56, Tryz.ntmps56
 go_wp2_with fail
 clear cc lc
 go_loopw [15] (fun i wr => ∃ j : Nat, i = .int .i64 j ∧ j ≤ L.length ∧ Hid (wr.heap[w.heap.size]? = some (celO U1 U2 xb xz)) ∧ Hid (Below w.heap.size w wr) ∧ Hid (∀ i, i < j → ∀ (m : Nat) (cs : List Cel), ps[i]? = some (m, cs) → ¬ szs (ins x cs) ≤ 239)) (fun i _ => L.length - (intOf i).toNat)
 case atStart => exact ⟨0, rfl, Nat.zero_le _, Z0, B0, N0⟩
 case round =>
  clear Z0 B0 N0
  obtain ⟨j, rfl, hj, Z1, B1, N1⟩ := hrel
  by_cases hlt : j < L.length
  · obtain ⟨⟨m, p⟩, hLj⟩ : ∃ q, L[j]? = some q := ⟨_, List.getElem?_eq_getElem hlt⟩
    obtain ⟨cs, hpj, hbk⟩ := HB.out.at' j m p hLj
    have hS := fun W => HS.out p cs hbk W
    have F1 := F.out.below B1.out
    obtain ⟨c0, c1, c2, c3⟩ := F1.pag j m p hLj
    have lp := F1.pl
    have hpok := (HM.out j m p hLj).2
    have HLj := Lib.hid hLj
    have HJ := Lib.hid hpj
    have HBK := Lib.hid hbk
    have HOK := Lib.hid hpok
    have d1 : decide ((j : Int) < (L.length : Int)) = true := by simpa using hlt
    have hlt' : (j : Int) < (L.length : Int) := by omega
    have i1 : IntKind.i64.wrap ((j : Int) + 1) = (j : Int) + 1 := IntWalk.i64_in _ (by omega)
    clear hLj hpj hbk hpok F1
    by_cases hfit : szs (ins x cs) ≤ 239
    · simp only [withRes, if_pos hfit] at hS
      obtain ⟨T, hT⟩ : ∃ T, T = str (bodyF (ins x cs)) := ⟨_, rfl⟩
      have hP := fun W hW hcW => HP.out W j m p (pagC p (ins x cs)) hW hcW HLj.out (pagC_ok HOK.out (HI.out cs HBK.out.fits hfit))
      obtain ⟨pk, pd, px, pl⟩ := p
      simp only [Pag.v, pagC] at hS hP
      simp only at c0 c1 c2 c3
      rw [← hT] at hS hP
      obtain ⟨S, hS'⟩ : ∃ S, S = str pl := ⟨_, rfl⟩
      rw [← hS'] at hS c3
      have HPP := Lib.hid hP
      have HT := Lib.hid hT
      have pb1 := heap_alloc_new wr (pagO pk pd px S)
      have cb1 := blk_cell pb1
      have z2 := hal (o := pagO pk pd px S) Z1.out
      have cz2 := blk_cell z2
      have B2 := Lib.hid (below_al B1.out (pagO pk pd px S))
      clear hT hS' hP pb1 z2 B1 Z1
      go_wp2_with fail
      with_reducible refine (hS _).mono ?_
      rintro e w2 ⟨rfl, hb2⟩
      have B3 := Lib.hid (below_base B2.out B2.out.size hb2)
      clear hb2 B2 hS c0 c1 c2 c3 cb1 cz2
      have B4 := Lib.hid (below_al B3.out (pagO pk pd px T))
      go_wp2_with fail
      with_reducible refine (HPP.out _ (G.out.rk B4.out) (CH.out.below B4.out)).mono ?_
      rintro e w3 ⟨rfl, hch3, hg3, hk3⟩
      have HF := Lib.hid (show FitPost w0 w gb mb sb qb c n cb C pg tk L ps x (.returned (.tuple #[.bool true, .int .i64 0])) w3 from .inl ⟨j, m, ⟨pk, pd, px, pl⟩, cs, HLj.out, HJ.out, hfit, N1.out, rfl, hch3, hg3, .trans (.of_below B4.out) hk3⟩)
      clear hch3 hg3 hk3
      go_wp2_with fail
      go_ret2
      exact HF.out
    · simp only [withRes, if_neg hfit] at hS
      obtain ⟨pk, pd, px, pl⟩ := p
      simp only [Pag.v] at hS
      simp only at c0 c1 c2 c3
      obtain ⟨S, hS'⟩ : ∃ S, S = str pl := ⟨_, rfl⟩
      rw [← hS'] at hS c3
      have pb1 := heap_alloc_new wr (pagO pk pd px S)
      have cb1 := blk_cell pb1
      have z2 := hal (o := pagO pk pd px S) Z1.out
      have cz2 := blk_cell z2
      have Z2 := Lib.hid z2
      have B2 := Lib.hid (below_al B1.out (pagO pk pd px S))
      have NN : Hid (∀ i, i < j + 1 → ∀ (m : Nat) (cs : List Cel), ps[i]? = some (m, cs) → ¬ szs (ins x cs) ≤ 239) := Lib.hid (fun i hi m' cs' h => by
       rcases Nat.lt_or_eq_of_le (Nat.le_of_lt_succ hi) with h1 | h1
       · exact N1.out i h1 m' cs' h
       · subst h1
         rw [HJ.out] at h
         injection h with h
         injection h with _ h
         rw [← h]; exact hfit)
      clear hS' pb1 z2 B1 Z1 hfit
      go_wp2_with fail
      with_reducible refine (hS _).mono ?_
      rintro e w2 ⟨rfl, hb2⟩
      have Z3 := Lib.hid (hal (o := zpO) (blk_keep Z2.out hb2))
      have B3 := Lib.hid (below_al (below_base B2.out B2.out.size hb2) zpO)
      clear hb2 B2 Z2 hS c0 c1 c2 c3 cb1 cz2
      go_wp2_with fail
      refine ⟨⟨j + 1, by simp, by omega, Z3, B3, NN⟩, ?_⟩
      clear i1
      simp [intOf]; omega
  · obtain rfl : j = L.length := by omega
    have hC' := CH.out.below B1.out
    have G' := G.out.rk B1.out
    have HF := Lib.hid (show FitPost w0 w gb mb sb qb c n cb C pg tk L ps x (.returned (.tuple #[.bool false, .int .i64 0])) wr from .inr ⟨fun i m cs hi => N1.out i (by have := (List.getElem?_eq_some_iff.1 hi).1; omega) m cs hi, rfl, B1.out⟩)
    clear hC' G'
    go_wp2_with fail
    go_ret2
    exact HF.out
set_option maxRecDepth 100000 in
set_option maxHeartbeats 4000000 in
theorem ccut_ok (w0 w : World) (gb mb sb qb c n cb C i m : Nat) (pg : Nat → Pag) (tk : Int) (L : List (Nat × Pag)) (q : Pag) (cs : List Cel) (k : List UInt8) (h : GV w0 w gb mb sb qb c n pg tk) (hc : Ch C w cb gb L) (hC : w0.heap.size ≤ C ∧ gb < C ∧ mb < C)
 (hi : L[i]? = some (m, q)) (hb : Bkt q cs) (hk : has k cs) (hL : L.length ≤ 64) (hm : m < n) (hq : q.ok) :
 Calls Tryz.prog 55 #[.pointer (some ⟨cb, 0, none⟩), .int .i64 i, .string (str k)] w fun e w' => e = .returned (.int .i64 0) ∧
  Ch C w' cb gb (L.set i (m, pagC q (cutK k cs))) ∧ GV w0 w' gb mb sb qb c n (updN pg m (pagC q (cutK k cs))) tk ∧ Ck w0.heap.size gb mb C w w' ∧ Pk gb mb cb w w' := by
 obtain ⟨hil, hie⟩ := List.getElem?_eq_some_iff.1 hi
 obtain ⟨nb, pb, cn, cp, hf⟩ := hc.form (by omega)
 have hcut := fun W => bcut_any q cs k hb hk W
 have hput := fun W (hW : GV w0 W gb mb sb qb c n pg tk) (hcW : Ch C W cb gb L) => cput_pk w0 W gb mb sb qb c n cb C i m pg tk L (pagC q (cutK k cs)) q hW hcW hC hi hm (pagC_ok hq (hb.fits.cut k)) (by omega)
 obtain ⟨c0, c1, c2, c3⟩ := hf.pag i m q hi
 have lp := hf.pl
 have cc := blk_cell hf.blk
 have lc := lt_of_block hf.blk
 have d1 : (i : Int) < (L.length : Int) := by omega
 obtain ⟨T, hT⟩ : ∃ T, T = str (bodyF (cutK k cs)) := ⟨_, rfl⟩
 obtain ⟨U, hU⟩ : ∃ U, U = str k := ⟨_, rfl⟩
 obtain ⟨pk, pd, px, pl⟩ := q
 simp only [Pag.v, pagC] at hcut hput ⊢
 simp only at c0 c1 c2 c3
 obtain ⟨S, hS⟩ : ∃ S, S = str pl := ⟨_, rfl⟩
 rw [← hS] at hcut c3
 rw [← hT] at hcut hput
 rw [← hU] at hcut ⊢
 have HP := Lib.hid hput
 have CH := Lib.hid hc
 have G := Lib.hid h
 clear hput hc h hf hi hie hb hk hm hq hS hT hU
 go_enter Tryz.func55, Tryz.ntmps55
 go_wp2_with fail
 with_reducible refine (hcut _).mono ?_
 rintro e w2 ⟨rfl, hb2⟩
 have B4 := Lib.hid (below_al hb2 (pagO pk pd px T))
 clear hb2 hcut c0 c1 c2 c3 cc lc
 go_wp2_with fail
 with_reducible refine (HP.out _ (G.out.rk B4.out) (CH.out.below B4.out)).mono ?_
 rintro e w3 ⟨rfl, hch3, hg3, hk3, hp3⟩
 have C3 := Lib.hid hch3
 have G3 := Lib.hid hg3
 have K3 := Lib.hid (Ck.trans (.of_below B4.out) hk3)
 have P3 := Lib.hid (Pk.of_below CH.out (by omega) B4.out hp3)
 clear hch3 hg3 hk3 hp3
 go_wp2_with fail
 go_ret
 exact ⟨rfl, C3.out, G3.out, K3.out, P3.out⟩
set_option maxRecDepth 100000 in
set_option maxHeartbeats 4000000 in
theorem cmore_ok (w0 w : World) (gb mb sb qb c n cb C l m i : Nat) (pg : Nat → Pag) (tk : Int) (L : List (Nat × Pag)) (q : Pag) (x : Cel) (h : GV w0 w gb mb sb qb c n pg tk) (hc : Ch C w cb gb L) (hC : w0.heap.size ≤ C ∧ gb < C ∧ mb < C)
 (hl : l + 1 = L.length) (hi : L[l]? = some (m, q)) (hx : x.ok) (hL : L.length ≤ 64) (hm : m < n) (hq : q.ok)
 {md mx : Int} {ml : List UInt8} (hp1 : pg 1 = ⟨2, md, mx, ml⟩) (hmap : IsMap n ml) (hk : -1000000 ≤ tk ∧ tk ≤ 1000000) (hti : takeI 2 ml = i) (hin : i < n) (h64 : n ≤ 64) :
 Calls Tryz.prog 57 #[.pointer (some ⟨cb, 0, none⟩), x.v] w fun e w' => e = .returned (.int .i64 0) ∧
  GV w0 w' gb mb sb qb c n (updN (updN (updN pg 1 ⟨2, md, mx, ml.set i 1⟩) m ⟨q.k, q.d, i, q.l⟩) i ⟨4, 0, 0, bodyF [x]⟩) (tk + 1) ∧ Ck w0.heap.size gb mb C w w' := by
 obtain ⟨hil, hie⟩ := List.getElem?_eq_some_iff.1 hi
 obtain ⟨nb, pb, cn, cp, hf⟩ := hc.form (by omega)
 have htake := fun W (hW : GV w0 W gb mb sb qb c n pg tk) => hW.takeW hp1 hmap hk i hti hin
 have hqo : (⟨q.k, q.d, i, q.l⟩ : Pag).ok := by
  obtain ⟨h1, h2, h3, h4, h5, h6, h7⟩ := hq
  exact ⟨h1, h2, h3, h4, by simp only; omega, by simp only; omega, h7⟩
 have hput := fun W (hW : GV w0 W gb mb sb qb c n (updN pg 1 ⟨2, md, mx, ml.set i 1⟩) (tk + 1)) (hcW : Ch C W cb gb L) => cput_pk w0 W gb mb sb qb c n cb C l m (updN pg 1 ⟨2, md, mx, ml.set i 1⟩) (tk + 1) L ⟨q.k, q.d, i, q.l⟩ q hW hcW hC hi hm hqo (by omega)
 have hem := fun W => empty_any 4 0 W
 have hsz : szs [x] ≤ 239 := by
  have h1 := hx.key.2
  have h2 := hx.rest
  simp only [szs, List.map_cons, List.map_nil, List.sum_cons, List.sum_nil, Cel.sz]
  split <;> omega
 have hf1 : Fits [x] := ⟨fun c hc => by rw [List.mem_singleton.1 hc]; exact hx, List.pairwise_singleton _ _, hsz⟩
 have hset := fun W => bset_any ⟨4, 0, 0, zs 240⟩ [] x ⟨.inr rfl, bodyF_nil.symm, ⟨fun c hc => by simp at hc, List.Pairwise.nil, by simp [szs]⟩⟩ hx W
 have hins : ins x [] = [x] := rfl
 rw [hins] at hset
 simp only [withRes, if_pos hsz] at hset
 have hput2 := fun W pg2 (hW : GV w0 W gb mb sb qb c n pg2 (tk + 1)) => hW.putW i hin ⟨4, 0, 0, bodyF [x]⟩ ⟨(by decide : (0 : Int) ≤ 4), (by decide : (4 : Int) < 6), (by decide : (0 : Int) ≤ 0), (by decide : (0 : Int) ≤ 5), (by decide : (0 : Int) ≤ 0), (by decide : (0 : Int) < 64), bodyF_len hf1⟩
 have hlI : IntKind.i64.wrap ((L.length : Int) - 1) = (l : Int) := by rw [← hl]; rw [IntWalk.i64_in] <;> omega
 have hlt : (l : Int) < (L.length : Int) := by omega
 have CH := Lib.hid hc
 have F := Lib.hid hf
 have G := Lib.hid h
 have hlast := hf.pag l m q hi
 have hcm := h.base
 obtain ⟨pk, pd, px, pl⟩ := q
 obtain ⟨S, hS⟩ : ∃ S, S = str pl := ⟨_, rfl⟩
 obtain ⟨T, hT⟩ : ∃ T, T = str (bodyF [x]) := ⟨_, rfl⟩
 obtain ⟨Z, hZ⟩ : ∃ T, T = str (zs 240) := ⟨_, rfl⟩
 obtain ⟨U1, hU1⟩ : ∃ U, U = str x.key := ⟨_, rfl⟩
 obtain ⟨U2, hU2⟩ : ∃ U, U = str x.val := ⟨_, rfl⟩
 obtain ⟨xb, hxb⟩ : ∃ b : Int, b = x.blob := ⟨_, rfl⟩
 obtain ⟨xz, hxz⟩ : ∃ b : Int, b = x.size := ⟨_, rfl⟩
 simp only [Pag.v, Cel.v] at hput hput2 hset hlast ⊢
 rw [← hS] at hput hlast
 rw [← hT] at hset hput2
 rw [← hZ] at hset hem
 rw [← hU1, ← hU2, ← hxb, ← hxz] at hset ⊢
 have HP := Lib.hid hput
 have HP2 := Lib.hid hput2
 have B0 := Lib.hid (below_al (Below.refl _ w) (celO U1 U2 xb xz))
 have Z0 := Lib.hid (heap_alloc_new w (celO U1 U2 xb xz))
 clear hp1 hmap hti hqo hq hx hf1 hsz hins hU1 hU2 hxb hxz hZ hT hie h hc hf hput hput2
 have F0 := Lib.hid (F.out.below B0.out)
 have cc := blk_cell F0.out.blk
 have lc := lt_of_block F0.out.blk
 have G0 := G.out.rk B0.out
 go_enter Tryz.func57, Tryz.ntmps57
 go_wp2_with fail
 with_reducible refine (htake _ G0).mono ?_
 rintro e w2 ⟨rfl, g2, k2⟩
 have hcb := CH.out.base
 have hcw := CH.out.lt
 have hpC := F.out.pC
 have hcbp := F.out.cbp
 have hnC := F.out.nC
 have hpl := F.out.pl
 have F2 := F0.out.keep k2.keep (by rintro (h | h) <;> omega) (by rintro (h | h) <;> omega) (by rintro (h | h) <;> omega)
 have CH2 := Lib.hid ((CH.out.below B0.out).wk k2 hC.1 hC.2.1 hC.2.2)
 have Z2 := Lib.hid (k2.blk Z0.out (by omega) (by omega) (by omega))
 have K2 := Lib.hid (Ck.trans (C := C) (.of_below B0.out) (.of_wk k2))
 have G2 := Lib.hid g2
 have hs2 : w.heap.size < w2.heap.size := lt_of_block Z2.out
 obtain ⟨c0, c1, c2, c3⟩ := F2.pag l m ⟨pk, pd, px, pl⟩ (by assumption)
 have cc := blk_cell F2.blk
 have lc := lt_of_block F2.blk
 have lp := F2.pl
 simp only at c3
 rw [← hS] at c3
 clear hS hlast
 have hpw3 : Hid (w2.heap.size < (w2.alloc (pagO pk pd i S)).heap.size) := Lib.hid (by simp)
 have B3 := Lib.hid (below_al (Below.refl _ w2) (pagO pk pd i S))
 have CH3 := CH2.out.below B3.out
 have G3 := G2.out.rk B3.out
 have Z3 := Lib.hid (hal (o := pagO pk pd i S) Z2.out)
 have HB2 := Lib.hid F2.blk
 clear k2 g2 F2
 go_wp2_with fail
 with_reducible refine (HP.out _ G3 CH3).mono ?_
 rintro e w4 ⟨rfl, _, g4, k4, nv, pb', l', c', hcv, kp⟩
 have hpb : pb' = pb := by
  have h1 := hal (o := pagO pk pd i S) HB2.out
  rw [hcv] at h1
  injection h1 with h1
  injection h1 with h1
  simp only [Array.mk.injEq, List.cons.injEq, Value.slice.injEq, Option.some.injEq, Addr.mk.injEq] at h1
  exact h1.2.2.1.1.1
 subst hpb
 have G4 := Lib.hid g4
 have K4 := Lib.hid (K2.out.trans (.trans (.of_below B3.out) k4))
 have HC4 := Lib.hid (kp.blk (hal (o := pagO pk pd i S) HB2.out) (by rintro (h | h | h); omega; omega; exact hcbp h))
 have Z4 := Lib.hid (kp.blk Z3.out (by rintro (h | h | h) <;> omega))
 have hgl : gb < w4.heap.size := g4.lt.1
 have hw4 : w.heap.size < w4.heap.size := lt_of_block Z4.out
 clear hcv kp g4 k4 c0 c1 c2 c3 cc lc lp CH3 G3 Z3 Z2 G2 K2 CH2
 go_wp2_with fail
 refine wp_region_held_drew (S := (fun W => W.heap[w.heap.size]? = some (celO U1 U2 xb xz) ∧ Below w4.heap.size w4 W)) (by kernel_rfl) (⟨Z4.out, below_dr (Below.refl _ _)⟩) (fun hHeld => ?_)
 refine Ra.W 1 ?_ ?_ hHeld ?_
 rotate_left
 · intro wq hSw
   have hSc := blk_cell hSw.1; have hSl := lt_of_block hSw.1
   go_simp
   try with_reducible rfl
 try simp only [Act.put, List.getElem_toArray, List.getElem_cons_succ, List.getElem_cons_zero, List.setIfInBounds_toArray, List.set_cons_zero, List.set_cons_succ]
 refine wpAnyH_ready (rs := [0, 6]) (by kernel_rfl) (by simp) ?_
 refine AllReadyH.cons rfl (fun K hK => ?_) (AllReadyH.cons rfl (fun K hK => ?_) AllReadyH.nil)
 · rw [if_pos (by kernel_rfl)]
   go_simp
   (with_reducible refine (hem _).mono ?_)
   rintro e w5 ⟨rfl, hb4⟩
   have H5 := And.intro (blk_keep hHeld.1 hb4) (below_tr hHeld.2 hb4)
   have s5 := H5.2.size
   try have zz5 := blk_keep (w := (w4.alloc zpO).drew) (heap_alloc_new w4 zpO) hb4
   go_simp
   refine hK.out _ _ (H5) (fun hHeld2 => ?_)
   clear hK K
   try clear hHeld
   have hHeld := hHeld2
   try clear hHeld2
   refine wpAnyH_ready (rs := [2, 6]) (by kernel_rfl) (by simp) ?_
   refine AllReadyH.cons rfl (fun K hK => ?_) (AllReadyH.cons rfl (fun K hK => ?_) AllReadyH.nil)
   · rw [if_pos (by kernel_rfl)]
     go_simp
     (with_reducible refine (hset _).mono ?_)
     rintro e w6 ⟨rfl, hb5⟩
     have H6 := And.intro (blk_keep hHeld.1 hb5) (below_tr hHeld.2 hb5)
     try have zz6 := blk_keep (heap_alloc_new w5 zpO) hb5
     try have zz6 := blk_keep zz5 hb5
     try have lz6 := lt_of_block zz6
     try have fz6 := blk_free zz6
     try have cz6 := blk_cell zz6
     go_simp
     refine hK.out _ _ (H6) (fun hHeld2 => ?_)
     clear hK K
     try clear hHeld
     have hHeld := hHeld2
     try clear hHeld2
     refine Ra.W 3 ?_ ?_ hHeld ?_
     rotate_left
     · intro wq hSw
       go_simp
       try with_reducible rfl
     try simp only [Act.put, List.getElem_toArray, List.getElem_cons_succ, List.getElem_cons_zero, List.setIfInBounds_toArray, List.set_cons_zero, List.set_cons_succ]
     refine Ra.W 4 ?_ ?_ hHeld ?_
     rotate_left
     · intro wq hSw
       go_simp
       try with_reducible rfl
     try simp only [Act.put, List.getElem_toArray, List.getElem_cons_succ, List.getElem_cons_zero, List.setIfInBounds_toArray, List.set_cons_zero, List.set_cons_succ]
     refine Ra.W 5 ?_ ?_ hHeld ?_
     rotate_left
     · intro wq hSw
       go_simp
       try with_reducible rfl
     try simp only [Act.put, List.getElem_toArray, List.getElem_cons_succ, List.getElem_cons_zero, List.setIfInBounds_toArray, List.set_cons_zero, List.set_cons_succ]
     refine wpAnyH_ready (rs := [6]) (by kernel_rfl) (by simp) ?_
     refine AllReadyH.cons rfl (fun K hK => ?_) AllReadyH.nil
     rw [if_pos (by kernel_rfl)]
     go_simp
     skip
     refine hK.out _ _ (⟨hal hHeld.1, below_al hHeld.2 _⟩) (fun hHeld2 => ?_)
     clear hK K
     try clear hHeld
     have hHeld := hHeld2
     try clear hHeld2
     refine wpAnyH_ready (rs := [7]) (by kernel_rfl) (by simp) ?_
     refine AllReadyH.cons rfl (fun K hK => ?_) AllReadyH.nil
     rw [if_pos (by kernel_rfl)]
     go_simp
     skip
     refine hK.out _ _ ((by first | with_reducible exact ⟨hal H6.1, below_al H6.2 _⟩ | (with_reducible refine ⟨hs4 hHeld.1 ?_, below_set4 hHeld.2 ?_ _ _ _ _⟩ <;> first | exact Nat.le_refl _ | exact s5 | omega))) (fun hHeld2 => ?_)
     clear hK K
     try clear hHeld
     have hHeld := hHeld2
     try clear hHeld2
     refine Ra.W 8 ?_ ?_ hHeld ?_
     rotate_left
     · intro wq hSw
       go_simp
       try with_reducible rfl
     try simp only [Act.put, List.getElem_toArray, List.getElem_cons_succ, List.getElem_cons_zero, List.setIfInBounds_toArray, List.set_cons_zero, List.set_cons_succ]
     refine wpAnyH_done (by kernel_rfl) ?_ _
     (first | have zz7 := set4_same zz6 (.int .i64 4) (.int .i64 0) (.int .i64 0) (.string T) | have zz7 := heap_alloc_new w6 (pagO 4 0 0 T))
     have cz7 := blk_cell zz7
     have lz7 := lt_of_block zz7
     have HB7 := Lib.hid hHeld.2
     clear hHeld
     try clear cz6 fz6 lz6
     go_wp2_with fail
     have HC7 := blk_keep HC4.out HB7.out
     have G7 := Lib.hid (G4.out.rk HB7.out)
     clear cz7 lz7
     refine Ra.wp_region_A (S := (Bz _)) [3, 5] (by kernel_rfl) (below_dr (Below.refl _ _)) (fun hHeld => ?_)
     refine Ra.WT 0 ?_ ?_ ?_
     rotate_left
     · intro wq hSw
       go_simp
       try with_reducible rfl
     try simp only [Act.put, List.getElem_toArray, List.getElem_cons_succ, List.getElem_cons_zero, List.setIfInBounds_toArray, List.set_cons_zero, List.set_cons_succ]
     refine Ra.WT 1 ?_ ?_ ?_
     rotate_left
     · intro wq hSw
       go_simp
       try with_reducible rfl
     try simp only [Act.put, List.getElem_toArray, List.getElem_cons_succ, List.getElem_cons_zero, List.setIfInBounds_toArray, List.set_cons_zero, List.set_cons_succ]
     refine Ra.WT 2 ?_ ?_ ?_
     rotate_left
     · intro wq hSw
       go_simp
       try with_reducible rfl
     try simp only [Act.put, List.getElem_toArray, List.getElem_cons_succ, List.getElem_cons_zero, List.setIfInBounds_toArray, List.set_cons_zero, List.set_cons_succ]
     refine Ra.WT 4 ?_ ?_ ?_
     rotate_left
     · intro wq hSw
       go_simp
       try with_reducible rfl
     try simp only [Act.put, List.getElem_toArray, List.getElem_cons_succ, List.getElem_cons_zero, List.setIfInBounds_toArray, List.set_cons_zero, List.set_cons_succ]
     refine Ra.WA 3 ?_ ?_ hHeld ?_
     rotate_left
     · intro wq hSw
       have hSc := blk_cell (blk_keep HC7 hSw); have hSl := lt_of_block (blk_keep HC7 hSw); have hSd := blk_cell (blk_keep zz7 hSw); have hSe := lt_of_block (blk_keep zz7 hSw)
       go_simp
       try with_reducible rfl
     try simp only [Act.put, List.getElem_toArray, List.getElem_cons_succ, List.getElem_cons_zero, List.setIfInBounds_toArray, List.set_cons_zero, List.set_cons_succ]
     refine Ra.WA 5 ?_ ?_ hHeld ?_
     rotate_left
     · intro wq hSw
       have hSc := blk_cell (blk_keep HC7 hSw); have hSl := lt_of_block (blk_keep HC7 hSw); have hSd := blk_cell (blk_keep zz7 hSw); have hSe := lt_of_block (blk_keep zz7 hSw)
       go_simp
       try with_reducible rfl
     try simp only [Act.put, List.getElem_toArray, List.getElem_cons_succ, List.getElem_cons_zero, List.setIfInBounds_toArray, List.set_cons_zero, List.set_cons_succ]
     refine Ra.wpA_ready (rs := [6]) (by kernel_rfl) (by simp) ?_
     refine Ra.AllReadyA.late rfl rfl (fun K hK => ?_) Ra.AllReadyA.nil
     rw [if_pos (by kernel_rfl)]
     go_simp
     (with_reducible refine (HP2.out _ _ (G7.out.rk (below_dr (Below.refl _ _)))).mono ?_)
     rintro e w8 ⟨rfl, g8, k8⟩
     go_simp
     refine hK.out _ _ (trivial) (fun hHeld2 => ?_)
     clear hK K
     try clear hHeld
     have hHeld := hHeld2
     try clear hHeld2
     refine Ra.WT 7 ?_ ?_ ?_
     rotate_left
     · intro wq hSw
       go_simp
       try with_reducible rfl
     try simp only [Act.put, List.getElem_toArray, List.getElem_cons_succ, List.getElem_cons_zero, List.setIfInBounds_toArray, List.set_cons_zero, List.set_cons_succ]
     refine Ra.wpA_done (by kernel_rfl) ?_ _
     go_wp2_with fail
     go_ret
     exact ⟨rfl, g8, K4.out.trans (.trans (.of_below HB7.out) (.of_wk ((Wk.of_below (below_dr (Below.refl _ _))).trans k8)))⟩
   · rw [if_pos (by kernel_rfl)]
     go_simp
     skip
     refine hK.out _ _ (⟨hal hHeld.1, below_al hHeld.2 _⟩) (fun hHeld2 => ?_)
     clear hK K
     try clear hHeld
     have hHeld := hHeld2
     try clear hHeld2
     refine wpAnyH_ready (rs := [2]) (by kernel_rfl) (by simp) ?_
     refine AllReadyH.cons rfl (fun K hK => ?_) AllReadyH.nil
     rw [if_pos (by kernel_rfl)]
     go_simp
     (with_reducible refine (hset _).mono ?_)
     rintro e w6 ⟨rfl, hb5⟩
     have H6 := And.intro (blk_keep hHeld.1 hb5) (below_tr hHeld.2 hb5)
     try have zz6 := blk_keep (heap_alloc_new w5 zpO) hb5
     try have zz6 := blk_keep zz5 hb5
     try have lz6 := lt_of_block zz6
     try have fz6 := blk_free zz6
     try have cz6 := blk_cell zz6
     go_simp
     refine hK.out _ _ (H6) (fun hHeld2 => ?_)
     clear hK K
     try clear hHeld
     have hHeld := hHeld2
     try clear hHeld2
     refine Ra.W 3 ?_ ?_ hHeld ?_
     rotate_left
     · intro wq hSw
       go_simp
       try with_reducible rfl
     try simp only [Act.put, List.getElem_toArray, List.getElem_cons_succ, List.getElem_cons_zero, List.setIfInBounds_toArray, List.set_cons_zero, List.set_cons_succ]
     refine Ra.W 4 ?_ ?_ hHeld ?_
     rotate_left
     · intro wq hSw
       go_simp
       try with_reducible rfl
     try simp only [Act.put, List.getElem_toArray, List.getElem_cons_succ, List.getElem_cons_zero, List.setIfInBounds_toArray, List.set_cons_zero, List.set_cons_succ]
     refine Ra.W 5 ?_ ?_ hHeld ?_
     rotate_left
     · intro wq hSw
       go_simp
       try with_reducible rfl
     try simp only [Act.put, List.getElem_toArray, List.getElem_cons_succ, List.getElem_cons_zero, List.setIfInBounds_toArray, List.set_cons_zero, List.set_cons_succ]
     refine wpAnyH_ready (rs := [7]) (by kernel_rfl) (by simp) ?_
     refine AllReadyH.cons rfl (fun K hK => ?_) AllReadyH.nil
     rw [if_pos (by kernel_rfl)]
     go_simp
     skip
     refine hK.out _ _ ((by first | with_reducible exact ⟨hal H6.1, below_al H6.2 _⟩ | (with_reducible refine ⟨hs4 hHeld.1 ?_, below_set4 hHeld.2 ?_ _ _ _ _⟩ <;> first | exact Nat.le_refl _ | exact s5 | omega))) (fun hHeld2 => ?_)
     clear hK K
     try clear hHeld
     have hHeld := hHeld2
     try clear hHeld2
     refine Ra.W 8 ?_ ?_ hHeld ?_
     rotate_left
     · intro wq hSw
       go_simp
       try with_reducible rfl
     try simp only [Act.put, List.getElem_toArray, List.getElem_cons_succ, List.getElem_cons_zero, List.setIfInBounds_toArray, List.set_cons_zero, List.set_cons_succ]
     refine wpAnyH_done (by kernel_rfl) ?_ _
     (first | have zz7 := set4_same zz6 (.int .i64 4) (.int .i64 0) (.int .i64 0) (.string T) | have zz7 := heap_alloc_new w6 (pagO 4 0 0 T))
     have cz7 := blk_cell zz7
     have lz7 := lt_of_block zz7
     have HB7 := Lib.hid hHeld.2
     clear hHeld
     try clear cz6 fz6 lz6
     go_wp2_with fail
     have HC7 := blk_keep HC4.out HB7.out
     have G7 := Lib.hid (G4.out.rk HB7.out)
     clear cz7 lz7
     refine Ra.wp_region_A (S := (Bz _)) [3, 5] (by kernel_rfl) (below_dr (Below.refl _ _)) (fun hHeld => ?_)
     refine Ra.WT 0 ?_ ?_ ?_
     rotate_left
     · intro wq hSw
       go_simp
       try with_reducible rfl
     try simp only [Act.put, List.getElem_toArray, List.getElem_cons_succ, List.getElem_cons_zero, List.setIfInBounds_toArray, List.set_cons_zero, List.set_cons_succ]
     refine Ra.WT 1 ?_ ?_ ?_
     rotate_left
     · intro wq hSw
       go_simp
       try with_reducible rfl
     try simp only [Act.put, List.getElem_toArray, List.getElem_cons_succ, List.getElem_cons_zero, List.setIfInBounds_toArray, List.set_cons_zero, List.set_cons_succ]
     refine Ra.WT 2 ?_ ?_ ?_
     rotate_left
     · intro wq hSw
       go_simp
       try with_reducible rfl
     try simp only [Act.put, List.getElem_toArray, List.getElem_cons_succ, List.getElem_cons_zero, List.setIfInBounds_toArray, List.set_cons_zero, List.set_cons_succ]
     refine Ra.WT 4 ?_ ?_ ?_
     rotate_left
     · intro wq hSw
       go_simp
       try with_reducible rfl
     try simp only [Act.put, List.getElem_toArray, List.getElem_cons_succ, List.getElem_cons_zero, List.setIfInBounds_toArray, List.set_cons_zero, List.set_cons_succ]
     refine Ra.WA 3 ?_ ?_ hHeld ?_
     rotate_left
     · intro wq hSw
       have hSc := blk_cell (blk_keep HC7 hSw); have hSl := lt_of_block (blk_keep HC7 hSw); have hSd := blk_cell (blk_keep zz7 hSw); have hSe := lt_of_block (blk_keep zz7 hSw)
       go_simp
       try with_reducible rfl
     try simp only [Act.put, List.getElem_toArray, List.getElem_cons_succ, List.getElem_cons_zero, List.setIfInBounds_toArray, List.set_cons_zero, List.set_cons_succ]
     refine Ra.WA 5 ?_ ?_ hHeld ?_
     rotate_left
     · intro wq hSw
       have hSc := blk_cell (blk_keep HC7 hSw); have hSl := lt_of_block (blk_keep HC7 hSw); have hSd := blk_cell (blk_keep zz7 hSw); have hSe := lt_of_block (blk_keep zz7 hSw)
       go_simp
       try with_reducible rfl
     try simp only [Act.put, List.getElem_toArray, List.getElem_cons_succ, List.getElem_cons_zero, List.setIfInBounds_toArray, List.set_cons_zero, List.set_cons_succ]
     refine Ra.wpA_ready (rs := [6]) (by kernel_rfl) (by simp) ?_
     refine Ra.AllReadyA.late rfl rfl (fun K hK => ?_) Ra.AllReadyA.nil
     rw [if_pos (by kernel_rfl)]
     go_simp
     (with_reducible refine (HP2.out _ _ (G7.out.rk (below_dr (Below.refl _ _)))).mono ?_)
     rintro e w8 ⟨rfl, g8, k8⟩
     go_simp
     refine hK.out _ _ (trivial) (fun hHeld2 => ?_)
     clear hK K
     try clear hHeld
     have hHeld := hHeld2
     try clear hHeld2
     refine Ra.WT 7 ?_ ?_ ?_
     rotate_left
     · intro wq hSw
       go_simp
       try with_reducible rfl
     try simp only [Act.put, List.getElem_toArray, List.getElem_cons_succ, List.getElem_cons_zero, List.setIfInBounds_toArray, List.set_cons_zero, List.set_cons_succ]
     refine Ra.wpA_done (by kernel_rfl) ?_ _
     go_wp2_with fail
     go_ret
     exact ⟨rfl, g8, K4.out.trans (.trans (.of_below HB7.out) (.of_wk ((Wk.of_below (below_dr (Below.refl _ _))).trans k8)))⟩
 · rw [if_pos (by kernel_rfl)]
   go_simp
   skip
   refine hK.out _ _ (⟨hal hHeld.1, below_al hHeld.2 _⟩) (fun hHeld2 => ?_)
   clear hK K
   try clear hHeld
   have hHeld := hHeld2
   try clear hHeld2
   refine wpAnyH_ready (rs := [0]) (by kernel_rfl) (by simp) ?_
   refine AllReadyH.cons rfl (fun K hK => ?_) AllReadyH.nil
   rw [if_pos (by kernel_rfl)]
   go_simp
   (with_reducible refine (hem _).mono ?_)
   rintro e w5 ⟨rfl, hb4⟩
   have H5 := And.intro (blk_keep hHeld.1 hb4) (below_tr hHeld.2 hb4)
   have s5 := H5.2.size
   try have zz5 := blk_keep (w := (w4.alloc zpO).drew) (heap_alloc_new w4 zpO) hb4
   go_simp
   refine hK.out _ _ (H5) (fun hHeld2 => ?_)
   clear hK K
   try clear hHeld
   have hHeld := hHeld2
   try clear hHeld2
   refine wpAnyH_ready (rs := [2]) (by kernel_rfl) (by simp) ?_
   refine AllReadyH.cons rfl (fun K hK => ?_) AllReadyH.nil
   rw [if_pos (by kernel_rfl)]
   go_simp
   (with_reducible refine (hset _).mono ?_)
   rintro e w6 ⟨rfl, hb5⟩
   have H6 := And.intro (blk_keep hHeld.1 hb5) (below_tr hHeld.2 hb5)
   try have zz6 := blk_keep (heap_alloc_new w5 zpO) hb5
   try have zz6 := blk_keep zz5 hb5
   try have lz6 := lt_of_block zz6
   try have fz6 := blk_free zz6
   try have cz6 := blk_cell zz6
   go_simp
   refine hK.out _ _ (H6) (fun hHeld2 => ?_)
   clear hK K
   try clear hHeld
   have hHeld := hHeld2
   try clear hHeld2
   refine Ra.W 3 ?_ ?_ hHeld ?_
   rotate_left
   · intro wq hSw
     go_simp
     try with_reducible rfl
   try simp only [Act.put, List.getElem_toArray, List.getElem_cons_succ, List.getElem_cons_zero, List.setIfInBounds_toArray, List.set_cons_zero, List.set_cons_succ]
   refine Ra.W 4 ?_ ?_ hHeld ?_
   rotate_left
   · intro wq hSw
     go_simp
     try with_reducible rfl
   try simp only [Act.put, List.getElem_toArray, List.getElem_cons_succ, List.getElem_cons_zero, List.setIfInBounds_toArray, List.set_cons_zero, List.set_cons_succ]
   refine Ra.W 5 ?_ ?_ hHeld ?_
   rotate_left
   · intro wq hSw
     go_simp
     try with_reducible rfl
   try simp only [Act.put, List.getElem_toArray, List.getElem_cons_succ, List.getElem_cons_zero, List.setIfInBounds_toArray, List.set_cons_zero, List.set_cons_succ]
   refine wpAnyH_ready (rs := [7]) (by kernel_rfl) (by simp) ?_
   refine AllReadyH.cons rfl (fun K hK => ?_) AllReadyH.nil
   rw [if_pos (by kernel_rfl)]
   go_simp
   skip
   refine hK.out _ _ ((by first | with_reducible exact ⟨hal H6.1, below_al H6.2 _⟩ | (with_reducible refine ⟨hs4 hHeld.1 ?_, below_set4 hHeld.2 ?_ _ _ _ _⟩ <;> first | exact Nat.le_refl _ | exact s5 | omega))) (fun hHeld2 => ?_)
   clear hK K
   try clear hHeld
   have hHeld := hHeld2
   try clear hHeld2
   refine Ra.W 8 ?_ ?_ hHeld ?_
   rotate_left
   · intro wq hSw
     go_simp
     try with_reducible rfl
   try simp only [Act.put, List.getElem_toArray, List.getElem_cons_succ, List.getElem_cons_zero, List.setIfInBounds_toArray, List.set_cons_zero, List.set_cons_succ]
   refine wpAnyH_done (by kernel_rfl) ?_ _
   (first | have zz7 := set4_same zz6 (.int .i64 4) (.int .i64 0) (.int .i64 0) (.string T) | have zz7 := heap_alloc_new w6 (pagO 4 0 0 T))
   have cz7 := blk_cell zz7
   have lz7 := lt_of_block zz7
   have HB7 := Lib.hid hHeld.2
   clear hHeld
   try clear cz6 fz6 lz6
   go_wp2_with fail
   have HC7 := blk_keep HC4.out HB7.out
   have G7 := Lib.hid (G4.out.rk HB7.out)
   clear cz7 lz7
   refine Ra.wp_region_A (S := (Bz _)) [3, 5] (by kernel_rfl) (below_dr (Below.refl _ _)) (fun hHeld => ?_)
   refine Ra.WT 0 ?_ ?_ ?_
   rotate_left
   · intro wq hSw
     go_simp
     try with_reducible rfl
   try simp only [Act.put, List.getElem_toArray, List.getElem_cons_succ, List.getElem_cons_zero, List.setIfInBounds_toArray, List.set_cons_zero, List.set_cons_succ]
   refine Ra.WT 1 ?_ ?_ ?_
   rotate_left
   · intro wq hSw
     go_simp
     try with_reducible rfl
   try simp only [Act.put, List.getElem_toArray, List.getElem_cons_succ, List.getElem_cons_zero, List.setIfInBounds_toArray, List.set_cons_zero, List.set_cons_succ]
   refine Ra.WT 2 ?_ ?_ ?_
   rotate_left
   · intro wq hSw
     go_simp
     try with_reducible rfl
   try simp only [Act.put, List.getElem_toArray, List.getElem_cons_succ, List.getElem_cons_zero, List.setIfInBounds_toArray, List.set_cons_zero, List.set_cons_succ]
   refine Ra.WT 4 ?_ ?_ ?_
   rotate_left
   · intro wq hSw
     go_simp
     try with_reducible rfl
   try simp only [Act.put, List.getElem_toArray, List.getElem_cons_succ, List.getElem_cons_zero, List.setIfInBounds_toArray, List.set_cons_zero, List.set_cons_succ]
   refine Ra.WA 3 ?_ ?_ hHeld ?_
   rotate_left
   · intro wq hSw
     have hSc := blk_cell (blk_keep HC7 hSw); have hSl := lt_of_block (blk_keep HC7 hSw); have hSd := blk_cell (blk_keep zz7 hSw); have hSe := lt_of_block (blk_keep zz7 hSw)
     go_simp
     try with_reducible rfl
   try simp only [Act.put, List.getElem_toArray, List.getElem_cons_succ, List.getElem_cons_zero, List.setIfInBounds_toArray, List.set_cons_zero, List.set_cons_succ]
   refine Ra.WA 5 ?_ ?_ hHeld ?_
   rotate_left
   · intro wq hSw
     have hSc := blk_cell (blk_keep HC7 hSw); have hSl := lt_of_block (blk_keep HC7 hSw); have hSd := blk_cell (blk_keep zz7 hSw); have hSe := lt_of_block (blk_keep zz7 hSw)
     go_simp
     try with_reducible rfl
   try simp only [Act.put, List.getElem_toArray, List.getElem_cons_succ, List.getElem_cons_zero, List.setIfInBounds_toArray, List.set_cons_zero, List.set_cons_succ]
   refine Ra.wpA_ready (rs := [6]) (by kernel_rfl) (by simp) ?_
   refine Ra.AllReadyA.late rfl rfl (fun K hK => ?_) Ra.AllReadyA.nil
   rw [if_pos (by kernel_rfl)]
   go_simp
   (with_reducible refine (HP2.out _ _ (G7.out.rk (below_dr (Below.refl _ _)))).mono ?_)
   rintro e w8 ⟨rfl, g8, k8⟩
   go_simp
   refine hK.out _ _ (trivial) (fun hHeld2 => ?_)
   clear hK K
   try clear hHeld
   have hHeld := hHeld2
   try clear hHeld2
   refine Ra.WT 7 ?_ ?_ ?_
   rotate_left
   · intro wq hSw
     go_simp
     try with_reducible rfl
   try simp only [Act.put, List.getElem_toArray, List.getElem_cons_succ, List.getElem_cons_zero, List.setIfInBounds_toArray, List.set_cons_zero, List.set_cons_succ]
   refine Ra.wpA_done (by kernel_rfl) ?_ _
   go_wp2_with fail
   go_ret
   exact ⟨rfl, g8, K4.out.trans (.trans (.of_below HB7.out) (.of_wk ((Wk.of_below (below_dr (Below.refl _ _))).trans k8)))⟩
set_option maxRecDepth 100000 in
set_option maxHeartbeats 4000000 in
theorem cmore_no (w0 w : World) (gb mb sb qb c n cb C : Nat) (pg : Nat → Pag) (tk : Int) (L : List (Nat × Pag)) (x : Cel) (h : GV w0 w gb mb sb qb c n pg tk) (hc : Ch C w cb gb L) (hpos : 0 < L.length)
 {md mx : Int} {ml : List UInt8} (hp1 : pg 1 = ⟨2, md, mx, ml⟩) (hmap : IsMap n ml) (hti : takeI 2 ml < 0) :
 Calls Tryz.prog 57 #[.pointer (some ⟨cb, 0, none⟩), x.v] w fun e w' => e = .returned (.int .i64 6) ∧ GV w0 w' gb mb sb qb c n pg tk ∧ Rk w0.heap.size w w' := by
 obtain ⟨nb, pb, cn, cp, hf⟩ := hc.form hpos
 have htake := fun W (hW : GV w0 W gb mb sb qb c n pg tk) => hW.take_noR hp1 hmap hti
 obtain ⟨U1, hU1⟩ : ∃ U, U = str x.key := ⟨_, rfl⟩
 obtain ⟨U2, hU2⟩ : ∃ U, U = str x.val := ⟨_, rfl⟩
 obtain ⟨xb, hxb⟩ : ∃ b : Int, b = x.blob := ⟨_, rfl⟩
 obtain ⟨xz, hxz⟩ : ∃ b : Int, b = x.size := ⟨_, rfl⟩
 simp only [Cel.v]
 rw [← hU1, ← hU2, ← hxb, ← hxz]
 have B0 := Lib.hid (below_al (Below.refl _ w) (celO U1 U2 xb xz))
 have F0 := Lib.hid (hf.below B0.out)
 have cc := blk_cell F0.out.blk
 have lc := lt_of_block F0.out.blk
 have G0 := h.rk B0.out
 clear hp1 hmap hti hU1 hU2 hxb hxz h hc hf
 go_enter Tryz.func57, Tryz.ntmps57
 go_wp2_with fail
 with_reducible refine (htake _ G0).mono ?_
 rintro e w2 ⟨rfl, g2, k2⟩
 have G2 := Lib.hid g2
 have K2 := Lib.hid (Rk.trans (.of_below B0.out) k2)
 clear g2 k2 cc lc htake
 go_wp2_with fail
 go_ret
 exact ⟨rfl, G2.out, K2.out⟩
end Go.Proofs.YtijhamllnnilbaaGreatDoor.Ha
