/- Lemmas of the claim, in their order:
- The contract of hash.Dump.
-/
import Derived.Test.YtijhamllnnilbaaGreatDoorU30
import Derived.Test.YtijhamllnnilbaaGreatDoorU26
import Derived.Test.YtijhamllnnilbaaGreatDoorU32
import Derived.Deep.LoopGhost
set_option linter.unusedVariables false
set_option linter.unusedSimpArgs false
namespace Go.Proofs.YtijhamllnnilbaaGreatDoor.Ha
open Go.RowKit Go.Proofs.YtijhamllnnilbaaGreatDoor.Mem Go.Proofs.YtijhamllnnilbaaGreatDoor.Pg Go.Proofs.YtijhamllnnilbaaGreatDoor.Kp Go.Proofs.YtijhamllnnilbaaGreatDoor.Sp Go.Proofs.YtijhamllnnilbaaGreatDoor.Gr
set_option linter.unusedSimpArgs false
set_option linter.unusedVariables false
theorem sortEntry_any (w : World) (base n cap : Nat) (A : Option Addr) (l : List Ent) (h : w.ownsRow base 57 2 (.slice A n cap) n (l.flatMap entC)) (hn : n = l.length) (hl : n ≤ 100000) :
    Calls Tryz.prog 61 #[.slice A n cap, .func (.func 62) #[] #[]] w fun e w' =>
      e = .returned (.tuple #[]) ∧ ∃ l' : List Ent, l'.Perm l ∧ SortedK Prod.fst l' ∧ w'.ownsRow base 57 2 (.slice A n cap) n (l'.flatMap entC) ∧ Keep (fun j => base ≤ j) w w' := by
  by_cases h0 : n = 0
  · subst h0
    have hl0 : l = [] := List.length_eq_zero_iff.1 hn.symm
    subst hl0
    have hc := AnyF.slices_SortFunc_none Tryz.sortEntry A cap (.func (.func 62) #[] #[]) w
    change Calls Tryz.prog 61 _ _ _ at hc
    refine hc.mono ?_
    rintro e w' ⟨rfl, rfl⟩
    exact ⟨rfl, [], List.Perm.refl _, List.Pairwise.nil, h, Keep.refl _ _⟩
  · obtain ⟨g, rfl⟩ : ∃ g, A = some ⟨g, 0, none⟩ := by
      rcases h.2 with ⟨_, h1⟩ | ⟨g, c', cur, h1, _⟩
      · exact absurd h1 h0
      · injection h1 with h1; exact ⟨g, h1⟩
    have hg := own_base h g rfl
    refine (sortEntry_ok w base g n cap l h hn hl).mono ?_
    rintro e w' ⟨rfl, l', h1, h2, h3, h4⟩
    exact ⟨rfl, l', h1, h2, h3, h4.mono (fun j hj => by omega)⟩
/-- The cells of the buckets that come first, below j. -/
def celsF (t : Tri) (F : List Nat) : List Cel := F.flatMap (fun i => (t.at' i).cells)
def entOf (vl : Cel → List UInt8) (c : Cel) : Ent := (c.key, vl c)
theorem celsF_step (t : Tri) (F : List Nat) (k : Nat) (hk : k < F.length) : celsF t (F.take (k + 1)) = celsF t (F.take k) ++ (t.at' F[k]).cells := by
  rw [celsF, List.take_succ_eq_append_getElem hk, List.flatMap_append]
  simp [celsF]
theorem celsF_le {n D : Nat} {pg : Nat → Pag} {t : Tri} (T : Tb n pg D t) (h64 : n ≤ 64) : ∀ F : List Nat, (celsF t F).length ≤ F.length * (64 * 59)
  | [] => by simp [celsF]
  | i :: F => by
    have h1 := celsF_le T h64 F
    have h2 := cellsP_getLe (T.fits _ (t.at_mem i)) (T.chn h64 i).len
    rw [← Lf.cells_eq] at h2
    simp only [celsF, List.flatMap_cons, List.length_append, List.length_cons] at h1 ⊢
    rw [Nat.succ_mul]
    omega
theorem cells_pages : ∀ (l : List Lf), (∀ b, b ∈ l → ∀ p, p ∈ b.pgs → p.2.length ≤ 59) → (l.flatMap Lf.cells).length ≤ (numsF l).length * 59
  | [], _ => by simp
  | b :: l, h => by
    have h1 := cells_pages l (fun c hc => h c (List.mem_cons_of_mem _ hc))
    have h2 := cellsP_le b.pgs (h b (List.mem_cons_self ..))
    have h3 : (numsF (b :: l)).length = b.pgs.length + (numsF l).length := by simp [numsF, Lf.nums]
    rw [List.flatMap_cons, List.length_append, h3, Nat.add_mul, Lf.cells_eq]
    omega
theorem celsF_perm {n D : Nat} {pg : Nat → Pag} {t : Tri} (T : Tb n pg D t) : (celsF t (fstT t (2 ^ D))).Perm (cellsT t) := by
  have h1 := perm_flat Lf.cells (fstT_perm T)
  rw [List.flatMap_map] at h1
  exact h1
theorem celsF_all {n D : Nat} {pg : Nat → Pag} {t : Tri} (T : Tb n pg D t) (h64 : n ≤ 64) : (celsF t (fstT t (2 ^ D))).length ≤ 64 * 59 := by
  rw [(celsF_perm T).length_eq]
  have h1 := cells_pages t.leaves (fun b hb p hp => (T.fits b hb p hp).len)
  have h2 := nodup_lt n (numsF t.leaves) T.nums (fun m h => (T.rng m h).2)
  refine Nat.le_trans h1 (Nat.mul_le_mul_right _ (by omega))
theorem info_ent : (Tryz.prog.info? 57).map (fun i => (i.zero, i.size, i.bytes)) = some (some (.agg #[.string ⟨#[]⟩, .string ⟨#[]⟩]), 2, 32) := by kernel_rfl
/-- Ahead of a cell of Dump: w is the world behind the buckets. -/
structure DmS (w0 w wr : World) (gb mb sb qb c n : Nat) (pg : Nat → Pag) (tk : Int) (es : List Ent) (out : Value) : Prop where
  g : GV w0 wr gb mb sb qb c n pg tk
  r : Below w.heap.size w wr
  ro : wr.ownsRow w.heap.size 57 2 out es.length (es.flatMap entC)
theorem DmS.below {w0 w wr w' : World} {gb mb sb qb c n : Nat} {pg : Nat → Pag} {tk : Int} {es : List Ent} {out : Value} (h : DmS w0 w wr gb mb sb qb c n pg tk es out) (k : Below wr.heap.size wr w') : DmS w0 w w' gb mb sb qb c n pg tk es out :=
  ⟨h.g.rk k, below_base h.r h.r.size k, own_below h.ro k⟩
set_option maxRecDepth 100000 in
set_option maxHeartbeats 8000000 in
theorem dump_ok (w0 w : World) (gb mb sb qb c n D : Nat) (pg : Nat → Pag) (tk : Int) (t : Tri) (h : GV w0 w gb mb sb qb c n pg tk) (T : Tb n pg D t) (vl : Cel → List UInt8) (pl : Cel → List Nat) (hv : ∀ b, b ∈ t.leaves → ∀ x, x ∈ b.cells → BlobAt n pg x (vl x) (pl x)) :
    Calls Tryz.prog 19 #[.pointer (some ⟨gb, 0, none⟩)] w fun e w' => ∃ A cap es, e = .returned (.tuple #[.slice A es.length cap, .int .i64 0]) ∧
      w'.ownsRow w.heap.size 57 2 (.slice A es.length cap) es.length (es.flatMap entC) ∧ es.Perm ((celsF t (fstT t (2 ^ D))).map (entOf vl)) ∧ SortedK Prod.fst es ∧ GV w0 w' gb mb sb qb c n pg tk ∧ Below w.heap.size w w' := by
  obtain ⟨i0, hif, hz0, hz1, hz2⟩ := info_parts info_ent
  have hopen := open_ok w0 w gb mb sb qb c n D pg tk t h T
  have hbk := fun W tb (hW : GV w0 W gb mb sb qb c n pg tk) ht => buckets_ok w0 W gb mb sb qb c n D tb pg tk t hW T ht
  have hF := fstT_len t (2 ^ D)
  have hCA := celsF_all T h.n64
  have hle := (T.good h.n64).le
  rw [entsF_len] at hle
  have h64 := h.n64
  have hgl := h.lt
  have hw0 : w0.heap.size ≤ w.heap.size := by have := h.base; omega
  have TT := Lib.hid T
  have HV := Lib.hid hv
  have HBK := Lib.hid hbk
  generalize fstT t (2 ^ D) = F at *
  clear h T hv hbk
  go_enter Tryz.func19, Tryz.ntmps19
  go_wp2_with fail
  with_reducible refine hopen.mono ?_
  rintro e w1 ⟨tb, rfl, htb, ht, g1, k1⟩
  have hb := HBK.out w1 tb g1 ht
  have B1 := Lib.hid k1.bel
  have hw1 := k1.bel.size
  clear hopen g1 k1 ht
  go_wp2_with fail
  with_reducible refine hb.mono ?_
  rintro e w2 ⟨Ac, cc, cbs, rfl, hcl, hown, hch, g2, k2⟩
  have HL := Lib.hid hcl
  have HC := Lib.hid hch
  have OC := Lib.hid hown
  have B2 := Lib.hid (below_base B1.out hw1 k2)
  have hw2 := k2.size
  have S2 : Hid (DmS w0 w2 w2 gb mb sb qb c n pg tk ((celsF t (F.take 0)).map (entOf vl)) (.slice none 0 0)) := Lib.hid ⟨g2, Below.refl _ _, ⟨rfl, .inl ⟨rfl, rfl⟩⟩⟩
  clear hb g2 k2 hown hch hcl
  go_wp2_with fail
  go_loopg [7, 32] F.length (fun k v7 v32 wr => ∃ j : Nat, k + j = F.length ∧ v32 = .int .i64 (j : Nat) ∧ j ≤ F.length ∧ Hid (DmS w0 w2 wr gb mb sb qb c n pg tk ((celsF t (F.take j)).map (entOf vl)) v7))
  case atStart => exact ⟨0, rfl, rfl, Nat.zero_le _, S2⟩
  case round =>
    clear S2
    obtain ⟨j, hkj, rfl, hj, H1⟩ := hrel
    by_cases hlt : j < F.length
    · have hjI : (j : Int) < (F.length : Int) := by omega
      have i1w : IntKind.i64.wrap ((j : Int) + 1) = (j : Int) + 1 := IntWalk.i64_in _ (by omega)
      have oc := own_below OC.out H1.out.r
      obtain ⟨g0, rfl⟩ : ∃ g, Ac = some ⟨g, 0, none⟩ := by
        rcases oc.2 with ⟨_, h0⟩ | ⟨g, cap, cur, h0, _⟩
        · have := HL.out; omega
        · injection h0 with h0; exact ⟨g, h0⟩
      have hjc : j < cbs.length := by have := HL.out; omega
      have hcb := own_at oc j (.pointer (some ⟨cbs[j], 0, none⟩)) (by simp [ptrs, hjc])
      have lc := own_lt oc g0 rfl
      have hfits := TT.out.fits _ (t.at_mem F[j])
      have hlen := (TT.out.chn h64 F[j]).len
      have hLl : ((t.at' F[j]).pags (t.dep F[j])).length = (t.at' F[j]).pgs.length := by unfold Lf.pags; exact pagsF_len ..
      have hpos : 0 < (t.at' F[j]).pgs.length := Nat.succ_pos _
      have hCH := (HC.out j F[j] cbs[j] (List.getElem?_eq_getElem hlt) (List.getElem?_eq_getElem hjc)).below H1.out.r
      have hcel := ccells_any wr _ cbs[j] gb _ (t.at' F[j]).pgs hCH (bkL_pags 3 _ (.inl rfl) _ hfits) (by omega) (by omega)
      have htot := cellsP_getLe hfits hlen
      have hcsV : Hid (∀ x, x ∈ cellsP (t.at' F[j]).pgs → x.ok ∧ BlobAt n pg x (vl x) (pl x)) := Lib.hid (fun x hx => ⟨cel_ok TT.out (t.at_mem F[j]) (by rw [Lf.cells_eq]; exact hx), HV.out _ (t.at_mem F[j]) x (by rw [Lf.cells_eq]; exact hx)⟩)
      have hst := celsF_step t F j hlt
      rw [Lf.cells_eq] at hst
      have hce := celsF_le TT.out h64 (F.take j)
      have hce2 : (celsF t (F.take j)).length ≤ 32 * (64 * 59) := by
        have h1 : (F.take j).length ≤ 32 := by rw [List.length_take]; omega
        exact Nat.le_trans hce (Nat.mul_le_mul_right _ h1)
      have HST := Lib.hid hst
      generalize cellsP (t.at' F[j]).pgs = cs at *
      obtain ⟨CB, hCB⟩ : ∃ b, b = cbs[j] := ⟨_, rfl⟩
      rw [← hCB] at hcb hcel
      clear hCH hCB hst hfits hlen hLl hpos hce oc
      go_wp2_with fail
      with_reducible refine hcel.mono ?_
      rintro e w3 ⟨A3, c3, rfl, ho3, hb3⟩
      have O3 := Lib.hid ho3
      have H3 : Hid (DmS w0 w2 w3 gb mb sb qb c n pg tk ((celsF t (F.take j) ++ cs.take 0).map (entOf vl)) _) := Lib.hid (by rw [List.take_zero, List.append_nil]; exact H1.out.below hb3)
      clear ho3 hb3 H1 hcel hcb lc
      go_wp2_with fail
      obtain ⟨gko, hgko⟩ : ∃ g, g = gk := ⟨_, rfl⟩
      rw [← hgko] at hkj
      obtain ⟨zr, hzr⟩ : ∃ z, z = wr.heap.size := ⟨_, rfl⟩
      rw [← hzr] at O3
      clear hzr
      have OW : Hid (w3.ownsRow zr 33 4 (.slice A3 cs.length c3) cs.length (flatC cs)) := O3
      clear O3
      go_loopg [7, 39] cs.length (fun k v7 v39 W => ∃ i : Nat, k + i = cs.length ∧ v39 = .int .i64 (i : Nat) ∧ i ≤ cs.length ∧ Hid (DmS w0 w2 W gb mb sb qb c n pg tk ((celsF t (F.take j) ++ cs.take i).map (entOf vl)) v7) ∧ Hid (W.ownsRow zr 33 4 (.slice A3 cs.length c3) cs.length (flatC cs)))
      case atStart => exact ⟨0, rfl, rfl, Nat.zero_le _, H3, OW⟩
      case round =>
        clear H3 OW
        obtain ⟨i, hki, rfl, hi, H4, O4⟩ := hrel
        by_cases hil : i < cs.length
        · have hiI : (i : Int) < (cs.length : Int) := by omega
          have i2w : IntKind.i64.wrap ((i : Int) + 1) = (i : Int) + 1 := IntWalk.i64_in _ (by omega)
          obtain ⟨g3, rfl⟩ : ∃ g, A3 = some ⟨g, 0, none⟩ := by
            rcases O4.out.2 with ⟨_, h0⟩ | ⟨g, cap, cur, h0, _⟩
            · omega
            · injection h0 with h0; exact ⟨g, h0⟩
          have pc := fun r (hr : r < 4) (u : Value) (hu : (cs[i].cells)[r]? = some u) => own_at O4.out (i * 4 + r) u ((flatC_at hil r hr).trans hu)
          have p0 := pc 0 (by omega) _ rfl
          have p1 := pc 1 (by omega) _ rfl
          have p2 := pc 2 (by omega) _ rfl
          have p3 := pc 3 (by omega) _ rfl
          rw [Nat.add_zero] at p0
          have lg := own_lt O4.out g3 rfl
          obtain ⟨hxo, hxb⟩ := hcsV.out _ (List.getElem_mem hil)
          have hval := fun W (hW : GV w0 W gb mb sb qb c n pg tk) => value_ok w0 W gb mb sb qb c n pg tk cs[i] _ _ hW hxo hxb
          have hent : ((celsF t (F.take j) ++ cs.take (i + 1)).map (entOf vl)) = (celsF t (F.take j) ++ cs.take i).map (entOf vl) ++ [(cs[i].key, vl cs[i])] := by
            rw [List.take_succ_eq_append_getElem hil, ← List.append_assoc, List.map_append]; rfl
          have hlen2 : ((celsF t (F.take j) ++ cs.take i).map (entOf vl)).length ≤ 200000 := by
            rw [List.length_map, List.length_append, List.length_take]
            omega
          have HEN := Lib.hid hent
          have HL2 := Lib.hid hlen2
          obtain ⟨VV, hVV⟩ : ∃ V, V = str (vl cs[i]) := ⟨_, rfl⟩
          obtain ⟨U1, hU1⟩ : ∃ U, U = str cs[i].key := ⟨_, rfl⟩
          obtain ⟨U2, hU2⟩ : ∃ U, U = str cs[i].val := ⟨_, rfl⟩
          obtain ⟨xb, hxb'⟩ : ∃ b : Int, b = cs[i].blob := ⟨_, rfl⟩
          obtain ⟨xz, hxz⟩ : ∃ b : Int, b = cs[i].size := ⟨_, rfl⟩
          simp only [Cel.v] at hval
          rw [← hVV, ← hU1, ← hU2, ← hxb', ← hxz] at hval
          rw [← hU1] at p0
          rw [← hU2] at p1
          rw [← hxb'] at p2
          rw [← hxz] at p3
          have HEQ := Lib.hid (And.intro hU1 hVV)
          have H5 := Lib.hid (H4.out.below (below_al (Below.refl _ wr) (celO U1 U2 xb xz)))
          have zc := heap_alloc_new wr (celO U1 U2 xb xz)
          have cz := blk_cell zc
          have lz := lt_of_block zc
          have ZC := Lib.hid zc
          have O5 := Lib.hid (own_below O4.out (below_al (Below.refl _ wr) (celO U1 U2 xb xz)))
          generalize hES : (celsF t (F.take j) ++ cs.take i).map (entOf vl) = es at *
          clear hES zc pc hVV hU1 hU2 hxb' hxz H4 O4 hxo hxb hent hlen2
          go_wp2_with fail
          with_reducible refine (hval _ H5.out.g).mono ?_
          rintro e w6 ⟨rfl, g6, k6⟩
          have z6 := blk_keep ZC.out k6.bel
          have cz6 := blk_cell z6
          have lz6 := lt_of_block z6
          have O6 := own_below O5.out k6.bel
          have H6 := H5.out.below k6.bel
          obtain ⟨A7, c7, h7⟩ := own_slice H6.ro
          subst h7
          have o7 := H6.ro.alloc (.cells #[.string U1, .string VV] 57)
          have s6 := H6.r.size
          have H6' := Lib.hid H6
          have O6' := Lib.hid O6
          clear hval H5 O5 g6 k6 z6 ZC cz lz p0 p1 p2 p3 lg H6 O6
          go_wp2_with (at_builtin; refine wpList_append_lies _ rfl (.tmp 52) (.tmp 57) _ rfl w2.heap.size 57 i0 (.agg #[.string ⟨#[]⟩, .string ⟨#[]⟩]) 2 32 Tryz.underlying34 hif hz0 hz1 hz2 rfl (by decide) (.slice A7 es.length c7) _ _ rfl o7 ⟨w6.heap.size, 0, none⟩ 1 1 [.string U1, .string VV] rfl rfl (cells_new _ _ rfl _ _) (by intro u hu; simp at hu; rcases hu with rfl | rfl <;> rfl) (by omega) (by unfold maxLen; have := HL2.out; omega) (by have := HL2.out; omega) (by simp; omega) _ rfl ?_; intro g8 c8 w8 ho8 hg8 hat8 hl8)
          have kg8 := Keep.grown (S := fun q => (Value.slice A7 es.length c7).ownBlock = some q) hg8 (fun j h => h)
          have K8 := (Keep.of_below (S := fun q => (Value.slice A7 es.length c7).ownBlock = some q) (below_al (Below.refl _ w6) (.cells #[.string U1, .string VV] 57))).trans kg8
          have ne8 := own_ne O6'.out H6'.out.ro (by decide)
          have O8 := Lib.hid (K8.row O6'.out (fun g hg e => by rcases ne8 with h | h; exact absurd (hg.symm.trans h) (by simp); exact h (hg.trans e.symm)))
          have G8 := H6'.out.g.owns K8 (fun q hq => by have := own_base H6'.out.ro q hq; omega)
          have B8 := H6'.out.r.trans (K8.to_below s6 (fun q hq => own_base H6'.out.ro q hq))
          have H8 : Hid (DmS w0 w2 w8 gb mb sb qb c n pg tk ((celsF t (F.take j) ++ cs.take (i + 1)).map (entOf vl)) (.slice (some ⟨g8, 0, none⟩) (es.length + 1) c8)) := Lib.hid ⟨G8, B8, by
            rw [HEN.out, List.length_append, List.flatMap_append]
            have e1 : [(cs[i].key, vl cs[i])].flatMap entC = [Value.string U1, Value.string VV] := by rw [HEQ.out.1, HEQ.out.2]; rfl
            rw [e1]
            exact ho8⟩
          clear kg8 K8 ne8 G8 B8 ho8 hg8 hat8 hl8 o7
          go_roundg (gk - 1)
          case measure => omega
          case rel => exact ⟨i + 1, by omega, by simp, by omega, H8, O8⟩
        · have hie : i = cs.length := by omega
          have H9 : Hid (DmS w0 w2 wr gb mb sb qb c n pg tk ((celsF t (F.take (j + 1))).map (entOf vl)) _) := Lib.hid (by rw [HST.out, ← List.take_length (l := cs), ← hie]; exact H4.out)
          clear H4 O4
          go_wp2_with fail
          go_roundg (gko - 1)
          case measure => omega
          case rel => exact ⟨j + 1, by omega, by simp, by omega, H9⟩
    · obtain rfl : j = F.length := by omega
      have HD := H1.out
      rw [List.take_length] at HD
      have hlen2 : ((celsF t F).map (entOf vl)).length ≤ 100000 := by
        rw [List.length_map]
        omega
      generalize hES : (celsF t F).map (entOf vl) = es at *
      have HES := Lib.hid hES
      obtain ⟨A7, c7, h7⟩ := own_slice HD.ro
      subst h7
      have hs := sortEntry_any wr w2.heap.size es.length c7 A7 es HD.ro rfl hlen2
      have HD' := Lib.hid HD
      clear HD H1 hlen2 hES
      go_wp2_with fail
      with_reducible refine hs.mono ?_
      rintro e w9 ⟨rfl, l', h1, h2, h3, h4⟩
      have hl := h1.length_eq
      have FIN : Hid (w9.ownsRow w.heap.size 57 2 (.slice A7 l'.length c7) l'.length (l'.flatMap entC) ∧ l'.Perm es ∧ SortedK Prod.fst l' ∧ GV w0 w9 gb mb sb qb c n pg tk ∧ Below w.heap.size w w9) :=
        Lib.hid ⟨by rw [hl]; exact row_mono h3 (by omega), h1, h2, HD'.out.g.owns h4 (fun q hq => by omega), B2.out.trans ((HD'.out.r.trans (h4.to_below HD'.out.r.size (fun q hq => hq))).mono (by omega))⟩
      have HLN := Lib.hid hl
      clear h1 h2 h3 h4 hs hl HD'
      go_wp2_with fail
      go_ret2
      exact ⟨A7, c7, l', by rw [HLN.out]; rfl, FIN.out.1, (by rw [HES.out]; exact FIN.out.2.1), FIN.out.2.2.1, FIN.out.2.2.2.1, FIN.out.2.2.2.2⟩
end Go.Proofs.YtijhamllnnilbaaGreatDoor.Ha
