/- A value's pages give the value back: plain lists; what blob.Put made is read as pages. -/
import Derived.Test.YtghbgajapdkofaaGreatDoorBlobGet
import Derived.Test.YtghbgajapdkofaaGreatDoorBlobAlive
namespace Go.Proofs.YtghbgajapdkofaaGreatDoor.Bl
open Go.RowKit Go.Proofs.YtghbgajapdkofaaGreatDoor.Mem Go.Proofs.YtghbgajapdkofaaGreatDoor.Pg

/-- The pages of a value. -/
def putPg (l : List UInt8) (at' : List Int) (n : Nat) : List Pg := (List.range n).map fun i => ⟨5, 0, nextOf at' i, body l i⟩
theorem putPg_get {l : List UInt8} {at' : List Int} {n i : Nat} {p : Pg} (h : (putPg l at' n)[i]? = some p) : i < n ∧ p = ⟨5, 0, nextOf at' i, body l i⟩ := by
  have hi : i < n := by have := (List.getElem?_eq_some_iff.1 h).1; simpa [putPg] using this
  rw [putPg, List.getElem?_map, List.getElem?_range hi] at h
  simp at h
  exact ⟨hi, h.symm⟩
theorem putPg_at (l : List UInt8) (at' : List Int) (n i : Nat) (h : i < n) : (putPg l at' n)[i]? = some ⟨5, 0, nextOf at' i, body l i⟩ := by simp [putPg, h]
theorem rows_get (l : List UInt8) (at' : List Int) : ∀ n i j, i < n → j < 4 → (rows l at' n)[i * 4 + j]? = (pgRow l at' i)[j]? := by
  intro n
  induction n with
  | zero => intro i j h; omega
  | succ n ih =>
    intro i j h hj
    rw [rows]
    rcases Nat.lt_or_eq_of_le (Nat.le_of_lt_succ h) with h' | rfl
    · rw [List.getElem?_append_left (by rw [rows_length]; omega)]
      exact ih i j h' hj
    · rw [List.getElem?_append_right (by rw [rows_length]; omega), rows_length, Nat.add_sub_cancel_left]
theorem pgs_own {w : World} {base g cap n : Nat} {l : List UInt8} {at' : List Int} (h : w.ownsRow base 26 4 (.slice (some ⟨g, 0, none⟩) n cap) n (rows l at' n)) (hn : n ≤ 1000) (hg : g < w.heap.size) : Pgs w (some ⟨g, 0, none⟩) n (putPg l at' n) := by
  refine ⟨by simp [putPg], hn, fun _ => ⟨g, 0, rfl, hg, fun i p hp j u hu => ?_⟩⟩
  obtain ⟨hi, rfl⟩ := putPg_get hp
  have hj : j < 4 := by have := (List.getElem?_eq_some_iff.1 hu).1; simpa [Pg.cells] using this
  rw [Nat.zero_add]
  exact own_at h _ u (by rw [rows_get l at' n i j hi hj]; exact hu)
theorem pgs_lit (W : World) (ps : List Pg) (e : TypeId) (h : ps.length ≤ 1000) (g : Nat) (hg : g = W.heap.size) : Pgs (W.alloc (.cells (ps.flatMap Pg.cells).toArray e)) (some ⟨g, 0, none⟩) ps.length ps := by
  subst hg
  refine ⟨rfl, h, fun _ => ⟨W.heap.size, 0, rfl, by simp, fun i p hp j u hu => ?_⟩⟩
  have hj : j < 4 := by have := (List.getElem?_eq_some_iff.1 hu).1; simpa [Pg.cells] using this
  rw [Nat.zero_add, cell_of_row _ _ _ _ _ _ (heap_alloc_new W _)]
  have key : ∀ (ps : List Pg) i p, ps[i]? = some p → (ps.flatMap Pg.cells)[i * 4 + j]? = p.cells[j]? := by
    intro ps
    induction ps with
    | nil => intro i p h; simp at h
    | cons q qs ih =>
      intro i p h
      cases i with
      | zero =>
        simp at h
        subst h
        rw [List.flatMap_cons, List.getElem?_append_left (by simp [Pg.cells]; omega)]
        congr 1
        omega
      | succ i =>
        simp at h
        rw [List.flatMap_cons, List.getElem?_append_right (by simp [Pg.cells]; omega), ← ih i p h]
        congr 1
        simp [Pg.cells]
        omega
  have := key ps i p hp
  simp only [List.getElem?_toArray]
  rw [this, hu]
theorem body_len (l : List UInt8) (i : Nat) : (body l i).length = 240 := by
  have := part_len l i
  rw [body, List.length_append, zs, List.length_replicate]
  omega
theorem nAt_part (l : List UInt8) (i : Nat) : nAt l.length i = (part l i).length := by
  rw [part_len, nAt]
  omega
theorem body_take (l : List UInt8) (i : Nat) : (body l i).take (nAt l.length i) = part l i := by rw [nAt_part, body, List.take_left]
theorem body_drop (l : List UInt8) (i : Nat) : ∀ c ∈ (body l i).drop (nAt l.length i), c = 0 := by
  rw [nAt_part, body, List.drop_left]
  intro c hc
  exact (List.mem_replicate.1 hc).2
theorem getOk_put {l : List UInt8} {at' : List Int} (h : PutOk l at') : GetOk l.length (putPg l at' at'.length) := by
  have hl : (putPg l at' at'.length).length = at'.length := by simp [putPg]
  refine ⟨by rw [hl]; exact h.1, by rw [hl, pgI_nat]; exact h.2.1, fun i p hp => ?_⟩
  obtain ⟨hi, rfl⟩ := putPg_get hp
  refine ⟨rfl, ?_, body_len l i, body_drop l i⟩
  rw [hl]
  show nextOf at' i = 0 ↔ _
  unfold nextOf
  by_cases h1 : i + 1 < at'.length
  · rw [if_pos h1]
    have := (h.2.2 (i + 1) h1).1
    omega
  · rw [if_neg h1]
    omega
theorem got_put (l : List UInt8) (at' : List Int) (n : Nat) : ∀ j, j ≤ n → got l.length (putPg l at' n) j = l.take (200 * j) := by
  intro j
  induction j with
  | zero => intro _; rfl
  | succ j ih =>
    intro h
    rw [got, ih (by omega), putPg_at l at' n j (by omega)]
    show _ ++ (body l j).take _ = _
    rw [body_take, part, show 200 * (j + 1) = 200 * j + 200 from by omega, List.take_add]
theorem got_put_all {l : List UInt8} {at' : List Int} (h : PutOk l at') : got l.length (putPg l at' at'.length) at'.length = l := by
  rw [got_put _ _ _ _ (Nat.le_refl _), List.take_of_length_le]
  have h1 := h.1
  have h2 := h.2.1
  unfold pgN at h2
  split at h2 <;> omega
theorem got_size {z : Int} {l : List Pg} (h : GetOk z l) : ((got z l l.length).length : Int) = z := by
  obtain ⟨k, hk⟩ : ∃ k, l.length = k + 1 := ⟨l.length - 1, by have := h.1; omega⟩
  have hp : ∀ i, i < l.length → ∃ p, l[i]? = some p ∧ PgOk z l.length i p := fun i hi => ⟨l[i], by rw [List.getElem?_eq_getElem hi], h.2.2 i _ (by rw [List.getElem?_eq_getElem hi])⟩
  obtain ⟨p, h1, h2⟩ := hp k (by omega)
  have h3 := got_len (z := z) (l := l) (len := l.length) k (by have := h.2.1; omega) (fun i hi => hp i (by omega))
  have h4 := h2.2.2.1
  have h5 := h.2.1
  rw [hk] at h5
  rw [hk, got, h1, List.length_append, h3, List.length_take, h4]
  unfold pgI at h5
  unfold nAt
  split at h5 <;> omega

/-- blob.Put, where the places may be. -/
theorem put_own (l : List UInt8) (L : List Int) (hl : l.length ≤ 1000) (hL : L.length ≤ 1000) (h : PutOk l L) (g n : Nat) (hn : n = L.length) (w : World) (hg : g = w.heap.size) :
    Calls Tryz.prog 6 #[.string (str l), .slice (some ⟨g, 0, none⟩) n n] (w.alloc (.cells (ints L).toArray 3)) fun e w' =>
      ∃ b cap, e = .returned (.tuple #[.slice (some ⟨b, 0, none⟩) n cap, .bool true]) ∧ w'.ownsRow w.heap.size 26 4 (.slice (some ⟨b, 0, none⟩) n cap) n (rows l L n) ∧ b < w'.heap.size ∧ w.heap.size ≤ b ∧ Below w.heap.size w w' := by
  subst hn hg
  refine (put_any l (some ⟨w.heap.size, 0, none⟩) L.length L.length L _ hl (ints_lit w L _ hL _ rfl) (Nat.le_refl _)).mono ?_
  rintro e w2 (⟨_, v, rfl, hown, hb2⟩ | ⟨hno, _⟩)
  · obtain ⟨b, cap, rfl, hb, hlt⟩ := hown.form (Nat.pos_of_ne_zero h.1)
    refine ⟨b, cap, rfl, ?_, hlt, ?_, below_base (below_al (Below.refl _ w) _) (by simp) hb2⟩
    · refine ⟨hown.1, ?_⟩
      rcases hown.2 with h | ⟨g, c, cur, h1, h2, h3⟩
      · exact .inl h
      · exact .inr ⟨g, c, cur, h1, by simp at h2; omega, h3⟩
    · simp at hb
      omega
  · exact absurd h hno
end Go.Proofs.YtghbgajapdkofaaGreatDoor.Bl
