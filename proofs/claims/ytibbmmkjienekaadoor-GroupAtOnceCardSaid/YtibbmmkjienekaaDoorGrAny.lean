/- A group over a new store of 16 pages, to which anything has been done. (Printed by tools/gen_any.py.) -/
import Derived.Test.YtibbmmkjienekaaDoorGrAlive
namespace Go.Proofs.YtibbmmkjienekaaDoor.Gr
open Go.RowKit Go.Proofs.YtibbmmkjienekaaDoor.Mem Go.Proofs.YtibbmmkjienekaaDoor.Pg Go.Proofs.YtibbmmkjienekaaDoor.Kp Go.Proofs.YtibbmmkjienekaaDoor.Sp
set_option linter.unusedSimpArgs false
set_option linter.unusedVariables false

set_option maxRecDepth 100000 in
set_option maxHeartbeats 2000000 in
theorem gtake_form (w : World) (gb mb sb qb n c : Nat) (dead : Int) (B : Nat → List UInt8) (M : Int → Option (List UInt8)) (tk : Int) (ht : Tab w) (hs : Sto w sb qb n c dead B) (hg : Grp w gb mb sb M tk) (b : List UInt8) (p : Pag) (h : seen n dead B M 1 = (b, 0)) (hp : Shows b p) (h0 : pagesF p.k p.l = 0) :
    Calls Tryd.prog 16 #[.pointer (some ⟨gb, 0, none⟩)] w fun e w' => e = .returned (.tuple #[.int .i64 0, .int .i64 2]) ∧ Below w.heap.size w w' := by
  have hl := hp.ok.2.2.2.2.2.2
  have hget := gget_any w gb mb sb qb n c dead B M tk 1 wf1 ht hs hg b p h hp
  obtain ⟨k, d, x, l⟩ := p
  simp only at hl h0
  simp only [Pag.v] at hget
  have htk := fun W => take_form k d x l W (by omega) h0
  obtain ⟨T, hT⟩ : ∃ T, T = str l := ⟨_, rfl⟩
  rw [← hT] at hget htk
  clear ht hs hg hp hT h0 hl h
  go_enter Tryd.func16, Tryd.ntmps16
  go_wp2_with fail
  with_reducible refine hget.mono ?_
  rintro e w1 ⟨rfl, hb1⟩
  have q6 := heap_alloc_new w1 (.cells #[.int .i64 k, .int .i64 d, .int .i64 x, .string T] 23)
  have c6 := blk_cell q6
  have hbb := below_al hb1 (.cells #[.int .i64 k, .int .i64 d, .int .i64 x, .string T] 23)
  clear q6 hb1 hget
  go_wp2_with fail
  with_reducible refine (htk _).mono ?_
  rintro e w2 ⟨rfl, hb2⟩
  have hbc := below_al (below_tr hbb hb2) (.cells #[.int .i64 0, .int .i64 0, .int .i64 0, .string ⟨#[]⟩] 23)
  clear c6 htk hbb hb2
  go_wp2_with fail
  go_ret2
  exact ⟨rfl, hbc⟩

set_option maxRecDepth 100000 in
set_option maxHeartbeats 2000000 in
theorem ggive_form (w : World) (gb mb sb qb n c : Nat) (dead : Int) (B : Nat → List UInt8) (M : Int → Option (List UInt8)) (tk : Int) (ht : Tab w) (hs : Sto w sb qb n c dead B) (hg : Grp w gb mb sb M tk) (b : List UInt8) (p : Pag) (h : seen n dead B M 1 = (b, 0)) (hp : Shows b p) (i : Int) (h0 : pagesF p.k p.l = 0) :
    Calls Tryd.prog 19 #[.pointer (some ⟨gb, 0, none⟩), .int .i64 i] w fun e w' => e = .returned (.int .i64 2) ∧ Below w.heap.size w w' := by
  have hl := hp.ok.2.2.2.2.2.2
  have hget := gget_any w gb mb sb qb n c dead B M tk 1 wf1 ht hs hg b p h hp
  obtain ⟨k, d, x, l⟩ := p
  simp only at hl h0
  simp only [Pag.v] at hget
  have htk := fun W => give_form k d x i l W (by omega) h0
  obtain ⟨T, hT⟩ : ∃ T, T = str l := ⟨_, rfl⟩
  rw [← hT] at hget htk
  clear ht hs hg hp hT h0 hl h
  go_enter Tryd.func19, Tryd.ntmps19
  go_wp2_with fail
  with_reducible refine hget.mono ?_
  rintro e w1 ⟨rfl, hb1⟩
  have q6 := heap_alloc_new w1 (.cells #[.int .i64 k, .int .i64 d, .int .i64 x, .string T] 23)
  have c6 := blk_cell q6
  have hbb := below_al hb1 (.cells #[.int .i64 k, .int .i64 d, .int .i64 x, .string T] 23)
  clear q6 hb1 hget
  go_wp2_with fail
  with_reducible refine (htk _).mono ?_
  rintro e w2 ⟨rfl, hb2⟩
  have hbc := below_al (below_tr hbb hb2) (.cells #[.int .i64 0, .int .i64 0, .int .i64 0, .string ⟨#[]⟩] 23)
  clear c6 htk hbb hb2
  go_wp2_with fail
  go_ret
  exact ⟨rfl, hbc⟩

/-- All that was put are pages, of numbers below 16. -/
def AllPag (M : Int → Option (List UInt8)) : Prop := ∀ i b, M i = some b → 0 ≤ i ∧ i < 16 ∧ ∃ p : Pag, p.ok ∧ b = p.bytes
theorem AllPag.put {M : Int → Option (List UInt8)} (h : AllPag M) {i : Int} {p : Pag} (hp : p.ok) (h0 : 0 ≤ i) (h1 : i < 16) : AllPag (upd M i p.bytes) := by
  intro j b hj
  unfold upd at hj
  split at hj
  · rename_i e
    subst e
    exact ⟨h0, h1, p, hp, (Option.some.inj hj).symm⟩
  · exact h j b hj
structure Any (w0 w : World) (gb mb sb qb c : Nat) (M : Int → Option (List UInt8)) (tk : Int) : Prop where
  tab : Tab w
  sto : Sto w sb qb 16 c (-1) (B0 16)
  g : Grp w gb mb sb M tk
  all : AllPag M
  bel : Below w0.heap.size w0 w
  ord : w0.heap.size ≤ gb ∧ w0.heap.size ≤ mb ∧ sb < gb ∧ sb < mb ∧ qb < gb ∧ qb < mb ∧ gtab < gb ∧ gtab < mb
section
variable {w0 w w' : World} {gb mb sb qb c : Nat} {M M' : Int → Option (List UInt8)} {tk tk' : Int}
theorem Any.below (h : Any w0 w gb mb sb qb c M tk) (k : Below w.heap.size w w') : Any w0 w' gb mb sb qb c M tk :=
  ⟨h.tab.below k, h.sto.below k, h.g.below k, h.all, below_base h.bel h.bel.size k, h.ord⟩
theorem Any.upd (h : Any w0 w gb mb sb qb c M tk) (k : Keep (fun j => j = gb ∨ j = mb) w w') (g : Grp w' gb mb sb M' tk') (a : AllPag M') : Any w0 w' gb mb sb qb c M' tk' := by
  have o := h.ord
  exact ⟨h.tab.keep k (by omega), h.sto.keep k (by omega) (by omega), g, a, below_keep h.bel h.bel.size k (fun i hi => by omega), o⟩
/-- What the map page shows. -/
theorem Any.page (h : Any w0 w gb mb sb qb c M tk) : ∃ b p, seen 16 (-1) (B0 16) M 1 = (b, 0) ∧ Shows b p := by
  unfold seen
  rcases e : M 1 with _ | b
  · refine ⟨Pag.bytes ⟨2, 0, 0, newL 16⟩, _, ?_, .inl ⟨newPage_ok 16, rfl⟩⟩
    show rd 16 (-1) (B0 16) ((1 : Nat) : Int) = _
    rw [rd_in (by omega), B0, if_pos rfl]
  · obtain ⟨_, _, p, hp, rfl⟩ := h.all 1 b e
    exact ⟨_, p, rfl, .inl ⟨hp, rfl⟩⟩
theorem Any.put (h : Any w0 w gb mb sb qb c M tk) (i : Int) (h0 : 0 ≤ i) (h1 : i < 16) (p : Pag) :
    Calls Tryd.prog 12 #[.pointer (some ⟨gb, 0, none⟩), .int .i64 i, p.v] w fun e w' => (∃ x, e = .returned (.int .i64 x)) ∧ (∃ M', Any w0 w' gb mb sb qb c M' tk) ∧ Keep (fun j => j = gb ∨ j = mb) w w' := by
  by_cases hp : p.ok
  · refine (gput_ok w gb mb sb M tk i p h.tab h.g hp h0 (by omega)).mono ?_
    rintro e w' ⟨rfl, g', k'⟩
    have k2 : Keep (fun j => j = gb ∨ j = mb) w w' := k'.mono (fun j h => .inr h)
    exact ⟨⟨_, rfl⟩, ⟨_, h.upd k2 g' (h.all.put hp h0 h1)⟩, k2⟩
  · refine (gput_no w gb i p h.tab (fun e => hp e.1)).mono ?_
    rintro e w' ⟨rfl, b'⟩
    exact ⟨⟨_, rfl⟩, ⟨_, h.below b'⟩, Keep.of_below b'⟩
theorem takeI_lt {l : List UInt8} {i : Nat} (h : takeI 2 l = i) : i < pagesF 2 l := by
  unfold takeI at h
  rcases idx_spec (l.take (pagesF 2 l)) 2 with ⟨h1, h2⟩ | ⟨k, h1, h2, h3, h4⟩
  · omega
  · rw [List.length_take] at h2
    omega
theorem pagesF_two {k : Int} {l : List UInt8} (h : pagesF k l ≠ 0) : k = 2 := by
  unfold pagesF at h
  split at h
  · rename_i e; exact e.1
  · exact absurd rfl h
theorem Any.take (h : Any w0 w gb mb sb qb c M tk) (hk : -1000000 ≤ tk ∧ tk ≤ 1000000) :
    Calls Tryd.prog 16 #[.pointer (some ⟨gb, 0, none⟩)] w fun e w' => (∃ x y, e = .returned (.tuple #[.int .i64 x, .int .i64 y])) ∧ (∃ M' tk', Any w0 w' gb mb sb qb c M' tk' ∧ tk - 1 ≤ tk' ∧ tk' ≤ tk + 1) ∧ Keep (fun j => j = gb ∨ j = mb) w w' := by
  obtain ⟨b, p, hb, hs⟩ := h.page
  have o := h.ord
  by_cases h0 : pagesF p.k p.l = 0
  · refine (gtake_form w gb mb sb qb 16 c (-1) (B0 16) M tk h.tab h.sto h.g b p hb hs h0).mono ?_
    rintro e w' ⟨rfl, b'⟩
    exact ⟨⟨_, _, rfl⟩, ⟨_, _, h.below b', by omega, by omega⟩, Keep.of_below b'⟩
  · obtain ⟨k, d, x, l⟩ := p
    obtain rfl := pagesF_two h0
    have hm : MapPage 16 (-1) (B0 16) M d x l := ⟨⟨b, hb, hs⟩⟩
    by_cases hi : takeI 2 l < 0
    · refine (gtake_no w gb mb sb qb 16 c (-1) (B0 16) M tk d x l h.tab h.sto h.g hm hi h0).mono ?_
      rintro e w' ⟨rfl, b'⟩
      exact ⟨⟨_, _, rfl⟩, ⟨_, _, h.below b', by omega, by omega⟩, Keep.of_below b'⟩
    · obtain ⟨i, hi'⟩ : ∃ i : Nat, takeI 2 l = i := ⟨(takeI 2 l).toNat, by omega⟩
      have hok := hs.ok
      have hok' : Pag.ok ⟨2, d, x, l.set i 1⟩ := by
        obtain ⟨a1, a2, a3, a4, a5, a6, a7⟩ := hok
        exact Pag.ok_mk ⟨a1, a2⟩ ⟨a3, a4⟩ ⟨a5, a6⟩ (by simpa using a7)
      refine (gtake_ok w gb mb sb qb 16 c (-1) (B0 16) M tk d x l h.tab h.sto h.g hm i hi' (takeI_lt hi') hk ⟨o.2.2.2.2.2.2.1, o.2.2.2.2.2.2.2⟩).mono ?_
      rintro e w' ⟨rfl, g', k'⟩
      exact ⟨⟨_, _, rfl⟩, ⟨_, _, h.upd k' g' (h.all.put hok' (by omega) (by omega)), by omega, by omega⟩, k'⟩
theorem Any.give (h : Any w0 w gb mb sb qb c M tk) (i : Int) (hk : -1000000 ≤ tk ∧ tk ≤ 1000000) :
    Calls Tryd.prog 19 #[.pointer (some ⟨gb, 0, none⟩), .int .i64 i] w fun e w' => (∃ x, e = .returned (.int .i64 x)) ∧ (∃ M' tk', Any w0 w' gb mb sb qb c M' tk' ∧ tk - 1 ≤ tk' ∧ tk' ≤ tk + 1) ∧ Keep (fun j => j = gb ∨ j = mb) w w' := by
  obtain ⟨b, p, hb, hs⟩ := h.page
  have o := h.ord
  by_cases h0 : pagesF p.k p.l = 0
  · refine (ggive_form w gb mb sb qb 16 c (-1) (B0 16) M tk h.tab h.sto h.g b p hb hs i h0).mono ?_
    rintro e w' ⟨rfl, b'⟩
    exact ⟨⟨_, rfl⟩, ⟨_, _, h.below b', by omega, by omega⟩, Keep.of_below b'⟩
  · obtain ⟨k, d, x, l⟩ := p
    obtain rfl := pagesF_two h0
    have hm : MapPage 16 (-1) (B0 16) M d x l := ⟨⟨b, hb, hs⟩⟩
    by_cases hi : i < 2 ∨ usedF 2 l i = false
    · refine (ggive_no w gb mb sb qb 16 c (-1) (B0 16) M tk d x l h.tab h.sto h.g hm i hi h0).mono ?_
      rintro e w' ⟨rfl, b'⟩
      exact ⟨⟨_, rfl⟩, ⟨_, _, h.below b', by omega, by omega⟩, Keep.of_below b'⟩
    · have hi2 : 2 ≤ i := by
        rcases Int.lt_or_le i 2 with h | h
        · exact absurd (.inl h) hi
        · exact h
      have hu : usedF 2 l i = true := by
        rcases e : usedF 2 l i with _ | _
        · exact absurd (.inr e) hi
        · rfl
      obtain ⟨m, rfl⟩ : ∃ m : Nat, i = m := ⟨i.toNat, by omega⟩
      have hok := hs.ok
      have hok' : Pag.ok ⟨2, d, x, l.set m 2⟩ := by
        obtain ⟨a1, a2, a3, a4, a5, a6, a7⟩ := hok
        exact Pag.ok_mk ⟨a1, a2⟩ ⟨a3, a4⟩ ⟨a5, a6⟩ (by simpa using a7)
      refine (ggive_ok w gb mb sb qb 16 c (-1) (B0 16) M tk d x l h.tab h.sto h.g hm m (by omega) hu hk ⟨o.2.2.2.2.2.2.1, o.2.2.2.2.2.2.2⟩).mono ?_
      rintro e w' ⟨rfl, g', k'⟩
      exact ⟨⟨_, rfl⟩, ⟨_, _, h.upd k' g' (h.all.put hok' (by omega) (by omega)), by omega, by omega⟩, k'⟩
end
end Go.Proofs.YtibbmmkjienekaaDoor.Gr
