/- HashNone: the walk. -/
import Derived.Test.YtijhamllnnilbaaGreatDoorM44
import Derived.Test.YtijhamllnnilbaaGreatDoorSameIntsM
namespace Go.Proofs.YtijhamllnnilbaaGreatDoor.Ha
open Go.RowKit Go.Proofs.YtijhamllnnilbaaGreatDoor.Mem Go.Proofs.YtijhamllnnilbaaGreatDoor.Pg Go.Proofs.YtijhamllnnilbaaGreatDoor.Kp Go.Proofs.YtijhamllnnilbaaGreatDoor.Sp Go.Proofs.YtijhamllnnilbaaGreatDoor.Gr
set_option linter.unusedSimpArgs false
set_option linter.unusedVariables false
set_option maxRecDepth 100000 in
set_option maxHeartbeats 4000000 in
theorem set_bad (w : World) (gb : Nat) (x : Cel) (grow : Bool) (hx : ¬ x.ok) :
    Calls Tryz.prog 18 #[.pointer (some ⟨gb, 0, none⟩), x.v, .bool grow] w fun e w' => e = .returned (.int .i64 1) ∧ Below w.heap.size w w' := by
  have hrt := fun W => right_any x W
  rw [decide_eq_false hx] at hrt
  simp only [Cel.v] at hrt ⊢
  obtain ⟨U1, hU1⟩ : ∃ U, U = str x.key := ⟨_, rfl⟩
  obtain ⟨U2, hU2⟩ : ∃ U, U = str x.val := ⟨_, rfl⟩
  obtain ⟨xb, hxb⟩ : ∃ b : Int, b = x.blob := ⟨_, rfl⟩
  obtain ⟨xz, hxz⟩ : ∃ b : Int, b = x.size := ⟨_, rfl⟩
  rw [← hU1, ← hU2, ← hxb, ← hxz] at hrt ⊢
  have B0 := Lib.hid (below_al (Below.refl _ w) (celO U1 U2 xb xz))
  have z0 := heap_alloc_new w (celO U1 U2 xb xz)
  have cz := blk_cell z0
  have lz := lt_of_block z0
  clear hU1 hU2 hxb hxz hx z0
  go_enter Tryz.func18, Tryz.ntmps18
  go_wp2_with fail
  with_reducible refine (hrt _).mono ?_
  rintro e w1 ⟨rfl, hb1⟩
  have B1 := Lib.hid (below_base B0.out B0.out.size hb1)
  clear hb1 hrt
  go_wp2_with fail
  go_ret
  exact ⟨rfl, B1.out⟩
/-- A value is stored, where there is room. -/
theorem store_good (w0 w : World) (gb mb sb qb c n D : Nat) (pg : Nat → Pag) (t : Tri) (ml : List UInt8) (X : List Nat) (tk0 : Int) (key val : List UInt8) (h : St w0 w gb mb sb qb c n pg D t ml X tk0) (hk : keyOk key) (hv : val.length ≤ 400) (hr : (numsF t.leaves).length + X.length + 4 ≤ n) (htk : -900000 ≤ tk0 ∧ tk0 ≤ 900000) :
    Calls Tryz.prog 24 #[.pointer (some ⟨gb, 0, none⟩), .string (str key), .string (str val)] w fun e w' => ∃ (x : Cel) (l : List Nat) (B : Option Addr) (cc : Nat) (pg' : Nat → Pag) (ml' : List UInt8), e = .returned (.tuple #[x.v, .slice B l.length cc, .int .i64 0]) ∧ x.key = key ∧ x.ok ∧ BlobAt n pg' x val l ∧
      Ints w' B l.length (toI l) ∧ (∀ b off, B = some ⟨b, off, none⟩ → w.heap.size ≤ b ∧ b < w'.heap.size) ∧ St w0 w' gb mb sb qb c n pg' D t ml' (X ++ l) (tk0 + l.length) ∧ Wk w0.heap.size gb mb w w' := by
  by_cases h40 : val.length ≤ 40
  · refine (store_inline w gb key val hk h40).mono ?_
    rintro e w' ⟨rfl, hb⟩
    refine ⟨⟨key, val, 0, 0⟩, [], none, 0, pg, ml, rfl, rfl, (Cel.ok_iff _).2 ⟨hk, .inl ⟨rfl, h40, rfl⟩⟩, .inl ⟨rfl, rfl, rfl⟩, ints_none w' 0, (fun b off e => by cases e), ?_, .of_below hb⟩
    rw [List.append_nil]
    have e : tk0 + ((([] : List Nat).length : Nat) : Int) = tk0 := by simp
    rw [e]
    exact ⟨h.gv.rk hb, h.hs⟩
  · refine (store_blob w0 w gb mb sb qb c n D pg t ml X tk0 key val h hk ⟨by omega, hv⟩ htk).mono ?_
    rintro e w' ⟨hp, hw⟩
    rcases hp with ⟨l, B, cc, pg', ml', rfl, hl, hown, hbl, hst⟩ | ⟨_, l, pg', ml', hst, hl, htk'⟩
    · have hpg := Bl.pgN_le val.length
      have hb0 : (l.getD 0 0) ∈ l := by
        have hpos : 0 < l.length := by rw [hl]; unfold Bl.pgN; split <;> omega
        rw [List.getD_eq_getElem?_getD, List.getElem?_eq_getElem hpos]
        exact List.getElem_mem hpos
      have hr2 := hst.hs.xr _ (List.mem_append_right X hb0)
      have h64 := hst.gv.n64
      refine ⟨_, l, B, cc, pg', ml', rfl, rfl, (Cel.ok_iff _).2 ⟨hk, .inr ⟨hr2.1, by show l.getD 0 0 < 64; omega, rfl, by show 40 < val.length; omega, hv⟩⟩, hbl, (ints_own' (natV_ints l ▸ hown) (by omega)).1, fun b off e => ?_, hst, hw⟩
      subst e
      exact ⟨own_base hown b rfl, own_lt hown b rfl⟩
    · have h1 := (take_free hst.hs).1 htk'
      have h2 := Bl.pgN_le val.length
      rw [List.length_append] at h1
      omega
set_option maxRecDepth 100000 in
set_option maxHeartbeats 8000000 in
theorem none_any (key val : List UInt8) (w : World) (ht : Tab w) (hk64 : key.length ≤ 140737488351232) (hv64 : val.length ≤ 140737488351232) :
    Calls Tryz.prog 7 #[.string (str key), .string (str val)] w fun e w' => e = .returned (.bool true) ∧ Below w.heap.size w w' := by
  have hal := fun W (k : Tab W) => alive_any W k
  have hsk : (str key).size = key.length := str_size key
  have hsv : (str val).size = val.length := str_size val
  have Ht := Lib.hid ht
  have Hal := Lib.hid hal
  clear ht hal
  by_cases hlong : 60 < key.length ∨ 600 < val.length
  · obtain ⟨U, hU⟩ : ∃ U, U = str key := ⟨_, rfl⟩
    obtain ⟨V, hV⟩ : ∃ V, V = str val := ⟨_, rfl⟩
    rw [← hU] at hsk ⊢
    rw [← hV] at hsv ⊢
    have Hsz := Lib.hid (And.intro hsk hsv)
    by_cases h1 : 60 < key.length
    · have h1I : (60 : Int) < (U.size : Int) := by omega
      clear hU hV hsk hsv
      go_enter Tryz.func7, Tryz.ntmps7
      go_wp2_with fail
      with_reducible refine (Hal.out _ Ht.out).mono ?_
      rintro e w1 ⟨rfl, hb1⟩
      have B1 := Lib.hid hb1
      clear hb1
      go_wp2_with fail
      go_ret
      exact ⟨rfl, B1.out⟩
    · have h2I : (600 : Int) < (V.size : Int) := by omega
      have h1I : ¬ (60 : Int) < (U.size : Int) := by omega
      clear hU hV hsk hsv
      go_enter Tryz.func7, Tryz.ntmps7
      go_wp2_with fail
      with_reducible refine (Hal.out _ Ht.out).mono ?_
      rintro e w1 ⟨rfl, hb1⟩
      have B1 := Lib.hid hb1
      clear hb1
      go_wp2_with fail
      go_ret
      exact ⟨rfl, B1.out⟩
  · have hget : ∀ W gb mb sb qb c pg tk, GV w W gb mb sb qb c 8 pg tk → Tb 8 pg 0 t00 → Calls Tryz.prog 25 #[.pointer (some ⟨gb, 0, none⟩), .string (str key)] W fun e w' => e = .returned (.tuple #[zcV, .int .i64 3]) ∧ GV w w' gb mb sb qb c 8 pg tk ∧ Rk w.heap.size W w' := fun W gb mb sb qb c pg tk hW hT => by
      have h := get_ok w W gb mb sb qb c 8 0 pg tk t00 key hW hT
      have e : (if keyOk key then getRes key (t00.at' (sumF key)).cells else .returned (.tuple #[zcV, .int .i64 3])) = .returned (.tuple #[zcV, .int .i64 3]) := by
        split
        · exact getRes_no rfl
        · rfl
      rw [e] at h
      exact h
    have hnew : ∀ W, Tab W → Calls Tryz.prog 14 #[.int .i64 8] W fun e w' => ∃ sb qb c, e = .returned (.pointer (some ⟨sb, 0, none⟩)) ∧ W.heap.size ≤ sb ∧ W.heap.size ≤ qb ∧ Below W.heap.size W w' ∧ Sto w' sb qb 8 c (-1) (bnew 8 3) := fun W h => newT_any 8 W h (by omega) (by omega)
    have hcut := fun W gb mb sb qb c pg tk (hW : GV w W gb mb sb qb c 8 pg tk) (hT : Tb 8 pg 0 t00) => cut_none_ok w W gb mb sb qb c 8 0 pg tk t00 key true hW hT (fun h => has00 _ _ h.2)
    have hkey := fun W => key_any key W
    have hvalA := fun W => value_any val W
    have hbadS := fun W gb (hno : ¬ (keyOk key ∧ val.length ≤ 400)) => store_bad W gb key val hno
    have hgood := fun W gb mb sb qb c (hW : St w W gb mb sb qb c 8 (pgNew 8) 0 t00 (fmtL 8) [] (-1)) (hk : keyOk key) (hv : val.length ≤ 400) => store_good w W gb mb sb qb c 8 0 (pgNew 8) t00 (fmtL 8) [] (-1) key val hW hk hv (by show 1 + 0 + 4 ≤ 8; omega) (by omega)
    have hsetb : ∀ W gb, ¬ (keyOk key ∧ val.length ≤ 400) → Calls Tryz.prog 18 #[.pointer (some ⟨gb, 0, none⟩), .agg #[.string (str key), .string (str val), .int .i64 0, .int .i64 0], .bool true] W fun e w' => e = .returned (.int .i64 1) ∧ Below W.heap.size W w' := fun W gb hno => set_bad W gb ⟨key, val, 0, 0⟩ true (fun hx => hno (by
      have h := (Cel.ok_iff _).1 hx
      refine ⟨h.1, ?_⟩
      rcases h.2 with ⟨_, h1, _⟩ | ⟨h1, _⟩
      · have h2 : val.length ≤ 40 := h1
        omega
      · have h2 : (2 : Nat) ≤ 0 := h1
        omega))
    have hBeq : ∀ W l pg (tk : Int) gb mb sb qb c B cc ml', St w W gb mb sb qb c 8 pg 0 t00 ml' l tk → Ints W B l.length (toI l) → (∀ b off, B = some ⟨b, off, none⟩ → b < W.heap.size) →
        Calls Tryz.prog 21 #[.pointer (some ⟨gb, 0, none⟩), .int .i64 8, .slice B l.length cc] W fun e w' => e = .returned (.int .i64 0) ∧ GV w w' gb mb sb qb c 8 pg (tk + ((numsF t00.leaves).length : Int)) ∧ Below W.heap.size W w' := fun W l pg tk gb mb sb qb c B cc ml' hW hI hB => by
      have h := check_ok w W gb mb sb qb c 8 0 pg _ t00 ml' l hW.gv hW.hs Cel.val (fun _ => []) (fun b hb x hx => absurd (show x ∈ ([] : List Cel) from by rw [List.mem_singleton.1 (show b ∈ [(⟨2, [], []⟩ : Lf)] from hb)] at hx; exact hx) (by simp)) l [] B cc hI hB (by show l.Perm ([] ++ l ++ []); simp)
      rw [if_pos rfl] at h
      exact h
    have hBno : ∀ W l pg (tk : Int) gb mb sb qb c ml', St w W gb mb sb qb c 8 pg 0 t00 ml' l tk →
        Calls Tryz.prog 21 #[.pointer (some ⟨gb, 0, none⟩), .int .i64 8, .slice none 0 0] W fun e w' => e = .returned (.int .i64 (if l = [] then 0 else 2)) ∧ GV w w' gb mb sb qb c 8 pg (tk + ((numsF t00.leaves).length : Int)) ∧ Below W.heap.size W w' := fun W l pg tk gb mb sb qb c ml' hW =>
      check_ok w W gb mb sb qb c 8 0 pg _ t00 ml' l hW.gv hW.hs Cel.val (fun _ => []) (fun b hb x hx => absurd (show x ∈ ([] : List Cel) from by rw [List.mem_singleton.1 (show b ∈ [(⟨2, [], []⟩ : Lf)] from hb)] at hx; exact hx) (by simp)) [] l none 0 (ints_none W 0) (fun b off e => by cases e) (by show l.Perm ([] ++ [] ++ l); simp)
    obtain ⟨U, hU⟩ : ∃ U, U = str key := ⟨_, rfl⟩
    obtain ⟨V, hV⟩ : ∃ V, V = str val := ⟨_, rfl⟩
    rw [← hU] at hsk ⊢
    rw [← hV] at hsv ⊢
    simp only [← hU] at hget hcut hkey hbadS hgood hsetb
    simp only [← hV] at hvalA hbadS hgood hsetb
    have h1I : ¬ (60 : Int) < (U.size : Int) := by omega
    have h2I : ¬ (600 : Int) < (V.size : Int) := by omega
    have Hget := Lib.hid hget
    have Hnew := Lib.hid hnew
    have Hcut := Lib.hid hcut
    have Hkey := Lib.hid hkey
    have Hval := Lib.hid hvalA
    have Hbad := Lib.hid hbadS
    have Hgood := Lib.hid hgood
    have Hsetb := Lib.hid hsetb
    have Hchk := Lib.hid hBeq
    have Hchn := Lib.hid hBno
    have HV := Lib.hid hV
    clear hU hV hsk hsv hget hnew hcut hkey hvalA hbadS hgood hsetb hBeq hBno hlong hk64 hv64
    go_enter Tryz.func7, Tryz.ntmps7
    go_wp2_with fail
    with_reducible refine (Hal.out _ Ht.out).mono ?_
    rintro e wz ⟨rfl, hbz⟩
    have Tz := Lib.hid (Ht.out.below hbz)
    have Bz0 := Lib.hid hbz
    clear hbz
    go_wp2_with fail
    with_reducible refine (Hnew.out _ Tz.out).mono ?_
    rintro e w1 ⟨sb, qb, c, rfl, hsb, hqb, hb1, hs1⟩
    have T1 := Lib.hid (Tz.out.below hb1)
    have S1 := Lib.hid hs1
    have B1 := Lib.hid (below_base Bz0.out Bz0.out.size hb1)
    clear hs1 hb1 Hnew
    go_wp2_with fail
    with_reducible refine (newG_any w w1 8 sb qb c (bnew 8 3) (pgNew 8) T1.out S1.out (fun i _ => bnew_shows 8 i) B1.out).mono ?_
    rintro e w2 ⟨gb, mb, rfl, hgv, hgb, hmb, hb2⟩
    have hw1 := B1.out.size
    have hw2 := hb2.size
    have S2 : Hid (St w w2 gb mb sb qb c 8 (pgNew 8) 0 t00 (fmtL 8) [] (-1)) := Lib.hid ⟨hgv, hs_new 8 (by omega) (by omega)⟩
    have B2 := Lib.hid (below_base B1.out hw1 hb2)
    have hgl2 := hgv.lt
    clear hgv hb2
    go_wp2_with fail
    with_reducible refine (Hget.out _ _ _ _ _ _ _ _ S2.out.gv S2.out.hs.tb).mono ?_
    rintro e w3 ⟨rfl, g3, k3⟩
    have z3 := heap_alloc_new w3 zcO
    have BB3 := below_al k3.bel zcO
    have S3 : Hid (St w (w3.alloc zcO) gb mb sb qb c 8 (pgNew 8) 0 t00 (fmtL 8) [] (-1)) := Lib.hid ⟨S2.out.gv.rk BB3, S2.out.hs⟩
    have B3 := Lib.hid (below_base B2.out B2.out.size BB3)
    have hw3 := k3.bel.size
    have hw3' : w3.heap.size < (w3.alloc zcO).heap.size := by simp
    clear g3 k3 BB3 Hget z3
    by_cases hg : keyOk key ∧ val.length ≤ 400
    · have hst := Hgood.out _ gb mb sb qb c S3.out hg.1 hg.2
      have dk : decide (keyOk key) = true := decide_eq_true hg.1
      have dv : decide (val.length ≤ 400) = true := decide_eq_true hg.2
      have DK := Lib.hid (And.intro dk dv)
      clear Hbad Hsetb Hgood hg dk dv
      go_wp2_with fail
      with_reducible refine hst.mono ?_
      rintro e w4 ⟨x, l, B, cc, pg4, ml4, rfl, hxk, hxo, hbl, hI, hBl, st4, k4⟩
      rw [List.nil_append] at st4
      obtain ⟨TK, hTK⟩ : ∃ z : Int, z = -1 + (l.length : Int) := ⟨_, rfl⟩
      rw [← hTK] at st4
      have hvl := fun W (hW : GV w W gb mb sb qb c 8 pg4 (TK + ((numsF t00.leaves).length : Int))) => value_ok w W gb mb sb qb c 8 pg4 _ x val l hW hxo hbl
      have hbs := fun W (hW : GV w W gb mb sb qb c 8 pg4 (TK + ((numsF t00.leaves).length : Int))) => blobs_ok w W gb mb sb qb c 8 pg4 _ x val l hW hxo hbl
      have hl64 : l.length ≤ 64 := by
        have h1 := hbl
        rcases h1 with ⟨_, _, h⟩ | ⟨_, _, _, h, _⟩
        · rw [h]; simp
        · rw [h]; have := Bl.pgN_le val.length; omega
      simp only [Cel.v] at hvl hbs ⊢
      obtain ⟨U1, hU1⟩ : ∃ U, U = str x.key := ⟨_, rfl⟩
      obtain ⟨U2, hU2⟩ : ∃ U, U = str x.val := ⟨_, rfl⟩
      obtain ⟨xb, hxb⟩ : ∃ b : Int, b = x.blob := ⟨_, rfl⟩
      obtain ⟨xz, hxz⟩ : ∃ b : Int, b = x.size := ⟨_, rfl⟩
      rw [← hU1, ← hU2, ← hxb, ← hxz]
      rw [← hU1, ← hU2, ← hxb, ← hxz] at hvl hbs
      simp only [← HV.out] at hvl
      have Hvl := Lib.hid hvl
      have Hbs := Lib.hid hbs
      have hB4 : Hid (∀ b off, B = some ⟨b, off, none⟩ → b < w4.heap.size) := Lib.hid (fun b off e => (hBl b off e).2)
      have BB4 := below_al (Below.refl _ w4) (celO U1 U2 xb xz)
      have S4 : Hid (St w (w4.alloc (celO U1 U2 xb xz)) gb mb sb qb c 8 pg4 0 t00 ml4 l TK) := Lib.hid ⟨st4.gv.rk BB4, st4.hs⟩
      have B4 := Lib.hid (below_base (below_keep B3.out B3.out.size k4.keep (by rintro i (rfl | rfl) <;> omega)) (by have := k4.size; have := B3.out.size; omega) BB4)
      have Z4 := Lib.hid (heap_alloc_new w4 (celO U1 U2 xb xz))
      have I4 := Lib.hid (hI.below BB4)
      have hs4 : w4.heap.size ≤ (w4.alloc (celO U1 U2 xb xz)).heap.size := BB4.size
      have hcutN := Hcut.out _ _ _ _ _ _ _ _ S4.out.gv S4.out.hs.tb
      clear hst hxk hxo hbl hI hBl st4 k4 hTK hvl hbs hU1 hU2 hxb hxz BB4
      go_wp2_with fail
      with_reducible refine (Hkey.out _).mono ?_
      rintro e w5 ⟨rfl, rfl⟩
      rw [DK.out.1]
      go_wp2_with fail
      with_reducible refine (Hval.out _).mono ?_
      rintro e w6 ⟨rfl, rfl⟩
      rw [DK.out.2]
      go_wp2_with fail
      with_reducible refine hcutN.mono ?_
      rintro e w7 ⟨rfl, g7, k7⟩
      have S7 : Hid (St w w7 gb mb sb qb c 8 pg4 0 t00 ml4 l TK) := Lib.hid ⟨g7, S4.out.hs⟩
      have Z7 := Lib.hid (blk_keep Z4.out k7.bel)
      have I7 := Lib.hid (I4.out.below k7.bel)
      have B7 := Lib.hid (below_base B4.out B4.out.size k7.bel)
      have hs7 := k7.bel.size
      have cz := blk_cell Z7.out
      have lz := lt_of_block Z7.out
      clear g7 k7 hcutN S4 I4 B4 Z4
      go_wp2_with fail
      with_reducible refine (Hvl.out _ S7.out.gv).mono ?_
      rintro e w8 ⟨rfl, g8, k8⟩
      have S8 : Hid (St w w8 gb mb sb qb c 8 pg4 0 t00 ml4 l TK) := Lib.hid ⟨g8, S7.out.hs⟩
      have Z8 := Lib.hid (blk_keep Z7.out k8.bel)
      have I8 := Lib.hid (I7.out.below k8.bel)
      have B8 := Lib.hid (below_base B7.out B7.out.size k8.bel)
      have hs8 := k8.bel.size
      have cz8 := blk_cell Z8.out
      have lz8 := lt_of_block Z8.out
      clear g8 k8 cz lz S7 I7 B7 Z7
      go_wp2_with fail
      with_reducible refine (Hbs.out _ S8.out.gv).mono ?_
      rintro e w9 ⟨⟨B2, c2, rfl, hown⟩, g9, k9⟩
      have S9 : Hid (St w w9 gb mb sb qb c 8 pg4 0 t00 ml4 l TK) := Lib.hid ⟨g9, S8.out.hs⟩
      have I9 := Lib.hid (I8.out.below k9.bel)
      have B9 := Lib.hid (below_base B8.out B8.out.size k9.bel)
      have hs9 := k9.bel.size
      have hio := (ints_own' (natV_ints l ▸ hown) (by omega)).1
      have hsame := sameInts_any B2 B l.length l.length c2 cc (toI l) (toI l) w9 hio I9.out
      rw [decide_eq_true rfl] at hsame
      clear g9 k9 cz8 lz8 S8 I8 B8 Z8 hown hio
      go_wp2_with fail
      with_reducible refine hsame.mono ?_
      rintro e wa ⟨rfl, hba⟩
      have Sa : Hid (St w wa gb mb sb qb c 8 pg4 0 t00 ml4 l TK) := Lib.hid ⟨S9.out.gv.rk hba, S9.out.hs⟩
      have Ia := Lib.hid (I9.out.below hba)
      have Ba := Lib.hid (below_base B9.out B9.out.size hba)
      have hsa := hba.size
      have hc1 := Hchk.out wa l pg4 TK gb mb sb qb c B cc ml4 Sa.out Ia.out (fun b off e => by have := hB4.out b off e; omega)
      clear hba hsame S9 I9 B9
      go_wp2_with fail
      with_reducible refine hc1.mono ?_
      rintro e wb ⟨rfl, gb', hbb⟩
      have Sb : Hid (St w wb gb mb sb qb c 8 pg4 0 t00 ml4 l TK) := Lib.hid ⟨gb', Sa.out.hs⟩
      have Bb := Lib.hid (below_base Ba.out Ba.out.size hbb)
      have hc2 := Hchn.out wb l pg4 TK gb mb sb qb c ml4 Sb.out
      clear gb' hbb hc1 Sa Ia Ba
      by_cases hl : l = []
      · rw [if_pos hl] at hc2
        have e1 : decide ((l.length : Int) = 0) = true := by simp [hl]
        have e2 : decide (l.length = 0) = true := by simp [hl]
        have e3 : ((l.length : Int) == 0) = true := by simp [hl]
        have e4 : (l.length == 0) = true := by simp [hl]
        have Bb' := Bb
        clear hl hl64
        go_wp2_with fail
        with_reducible refine hc2.mono ?_
        rintro e wc ⟨rfl, _, hbc⟩
        have Bc := Lib.hid (below_base Bb.out Bb.out.size hbc)
        clear hbc hc2
        go_wp2_with fail
        go_ret
        exact ⟨by simp_all, Bc.out⟩
      · rw [if_neg hl] at hc2
        have hpos : 0 < l.length := List.length_pos_iff.2 hl
        have e1 : decide ((l.length : Int) = 0) = false := by simp; exact hl
        have e2 : decide (l.length = 0) = false := by simp; exact hl
        have e3 : ((l.length : Int) == 0) = false := by simp; exact hl
        have e4 : (l.length == 0) = false := by simp; exact hl
        clear hl hl64
        go_wp2_with fail
        with_reducible refine hc2.mono ?_
        rintro e wc ⟨rfl, _, hbc⟩
        have Bc := Lib.hid (below_base Bb.out Bb.out.size hbc)
        clear hbc hc2
        go_wp2_with fail
        set_option pp.deepTerms true in set_option pp.maxSteps 200000 in trace_state
        go_ret
        exact ⟨by simp_all, Bc.out⟩
    · have hst := Hbad.out (w3.alloc zcO) gb hg
      have Hsb := Lib.hid (fun W => Hsetb.out W gb hg)
      have HG := Lib.hid hg
      clear Hbad Hsetb Hgood hg
      go_wp2_with fail
      with_reducible refine hst.mono ?_
      rintro e w4 ⟨rfl, hb4⟩
      have z4 := heap_alloc_new w4 zcO
      have BB4 := below_al hb4 zcO
      have S4 : Hid (St w (w4.alloc zcO) gb mb sb qb c 8 (pgNew 8) 0 t00 (fmtL 8) [] (-1)) := Lib.hid ⟨S3.out.gv.rk BB4, S3.out.hs⟩
      have B4 := Lib.hid (below_base B3.out B3.out.size BB4)
      have Z4 := Lib.hid z4
      clear hst hb4 z4 BB4
      go_wp2_with fail
      with_reducible refine (Hkey.out _).mono ?_
      rintro e w5 ⟨rfl, rfl⟩
      have hcutN := Hcut.out _ _ _ _ _ _ _ _ S4.out.gv S4.out.hs.tb
      by_cases hk : keyOk key
      · have hv : ¬ val.length ≤ 400 := fun h => HG.out ⟨hk, h⟩
        have dk : decide (keyOk key) = true := decide_eq_true hk
        have dv : decide (val.length ≤ 400) = false := decide_eq_false hv
        rw [dk]
        clear hk hv
        go_wp2_with fail
        with_reducible refine (Hval.out _).mono ?_
        rintro e w6 ⟨rfl, rfl⟩
        rw [dv]
        go_wp2_with fail
        with_reducible refine hcutN.mono ?_
        rintro e w7 ⟨rfl, g7, k7⟩
        have Z7 := Lib.hid (blk_keep Z4.out k7.bel)
        have B7 := Lib.hid (below_base B4.out B4.out.size k7.bel)
        have cz := blk_cell Z7.out
        have lz := lt_of_block Z7.out
        clear g7 k7 hcutN
        go_wp2_with fail
        with_reducible refine (Hsb.out _).mono ?_
        rintro e w8 ⟨rfl, hb8⟩
        have B8 := Lib.hid (below_base B7.out B7.out.size hb8)
        clear hb8
        go_wp2_with fail
        go_ret
        exact ⟨rfl, B8.out⟩
      · have dk : decide (keyOk key) = false := decide_eq_false hk
        rw [dk]
        clear hk
        go_wp2_with fail
        with_reducible refine hcutN.mono ?_
        rintro e w7 ⟨rfl, g7, k7⟩
        have Z7 := Lib.hid (blk_keep Z4.out k7.bel)
        have B7 := Lib.hid (below_base B4.out B4.out.size k7.bel)
        have cz := blk_cell Z7.out
        have lz := lt_of_block Z7.out
        clear g7 k7 hcutN
        go_wp2_with fail
        with_reducible refine (Hsb.out _).mono ?_
        rintro e w8 ⟨rfl, hb8⟩
        have B8 := Lib.hid (below_base B7.out B7.out.size hb8)
        clear hb8
        go_wp2_with fail
        go_ret
        exact ⟨rfl, B8.out⟩
/-- The law, of any two strings. -/
theorem none_law (k v : ByteArray) (w : World) (ht : Tab w) (hk : k.size ≤ 140737488351232) (hv : v.size ≤ 140737488351232) :
    Calls Tryz.prog 7 #[.string k, .string v] w fun e w' => e = .returned (.bool true) ∧ Below w.heap.size w w' := by
  have h := none_any k.data.toList v.data.toList w ht (by simpa using hk) (by simpa using hv)
  rw [← str_of k, ← str_of v] at h
  exact h
end Go.Proofs.YtijhamllnnilbaaGreatDoor.Ha
