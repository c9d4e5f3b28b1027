/- A turned byte in a value's page: plain lists. -/
import Derived.Test.YtghbgajapdkofaaDoorBlobBack
import Derived.Laws.Bits64
namespace Go.Proofs.YtghbgajapdkofaaDoor.Bl
open Go.RowKit Go.Proofs.YtghbgajapdkofaaDoor.Mem Go.Proofs.YtghbgajapdkofaaDoor.Pg

theorem bits_xor_u8 (a b : UInt8) : bits .xor .u8 (a.toNat : Int) (b.toNat : Int) = ((a ^^^ b).toNat : Int) := by
  have ha := a.toNat_lt
  have hb := b.toNat_lt
  have hx : a.toNat ^^^ b.toNat < 2 ^ 8 := Nat.xor_lt_two_pow (by omega) (by omega)
  have h1 : (BitVec.ofInt 8 (a.toNat : Int)).toNat = a.toNat := by
    rw [BitVec.ofInt_natCast, BitVec.toNat_ofNat]; exact Nat.mod_eq_of_lt (by omega)
  have h2 : (BitVec.ofInt 8 (b.toNat : Int)).toNat = b.toNat := by
    rw [BitVec.ofInt_natCast, BitVec.toNat_ofNat]; exact Nat.mod_eq_of_lt (by omega)
  have hw : ∀ n : Int, IntKind.u8.wrap n = n % 256 := fun n => by simp [IntKind.wrap, IntKind.bits, IntKind.signed]
  show IntKind.u8.wrap ((BitVec.ofInt 8 (a.toNat : Int) ^^^ BitVec.ofInt 8 (b.toNat : Int)).toNat : Int) = _
  rw [BitVec.toNat_xor, h1, h2, hw, UInt8.toNat_xor]
  omega
theorem xor_ne {a b : UInt8} (h : b ≠ 0) : a ^^^ b ≠ a := fun he => h (by
  have : a ^^^ (a ^^^ b) = a ^^^ a := by rw [he]
  rwa [← UInt8.xor_assoc, UInt8.xor_self, UInt8.zero_xor] at this)

/-- The pages, one byte of one of them turned. -/
def turned (ps : List Pg) (i k : Nat) (c : UInt8) : List Pg :=
  match ps[i]? with
  | some p => ps.set i { p with b := p.b.set k (p.b.getD k 0 ^^^ c) }
  | none => ps
theorem turned_at {ps : List Pg} {i : Nat} {p : Pg} (h : ps[i]? = some p) (k : Nat) (c : UInt8) : turned ps i k c = ps.set i { p with b := p.b.set k (p.b.getD k 0 ^^^ c) } := by simp [turned, h]
theorem got_at {z : Int} {l : List Pg} {len : Nat} : ∀ j, j ≤ pgI z → (∀ i, i < j → ∃ p, l[i]? = some p ∧ PgOk z len i p) → ∀ i k p, i < j → l[i]? = some p → k < nAt z i → (got z l j)[200 * i + k]? = p.b[k]? := by
  intro j
  induction j with
  | zero => intro _ _ i k p h; omega
  | succ j ih =>
    intro hj hp i k p hi hpi hk
    have hgl := got_len (z := z) (l := l) (len := len) j (by omega) (fun i hi => hp i (by omega))
    have hk2 : k < 200 := by unfold nAt at hk; omega
    obtain ⟨q, hq, hqo⟩ := hp j (by omega)
    rw [got, hq]
    rcases Nat.lt_or_eq_of_le (Nat.le_of_lt_succ hi) with h | rfl
    · rw [List.getElem?_append_left (by rw [hgl]; omega)]
      exact ih (by omega) (fun i hi => hp i (by omega)) i k p h hpi hk
    · rw [List.getElem?_append_right (by rw [hgl]; omega), hgl, Nat.add_sub_cancel_left, List.getElem?_take, if_pos hk]
      rw [hpi] at hq
      injection hq with hq
      rw [hq]
theorem turned_get {ps : List Pg} {i k : Nat} {c : UInt8} {p : Pg} (h : ps[i]? = some p) {j : Nat} {q : Pg} (hq : (turned ps i k c)[j]? = some q) :
    (j = i ∧ q = { p with b := p.b.set k (p.b.getD k 0 ^^^ c) }) ∨ (j ≠ i ∧ ps[j]? = some q) := by
  rw [turned_at h, List.getElem?_set] at hq
  split at hq
  · rename_i hji
    subst hji
    split at hq
    · injection hq with hq
      exact .inl ⟨rfl, hq.symm⟩
    · cases hq
  · rename_i hji
    exact .inr ⟨fun e => hji e.symm, hq⟩
theorem turned_len (ps : List Pg) (i k : Nat) (c : UInt8) : (turned ps i k c).length = ps.length := by
  unfold turned
  split <;> simp

/-- Turned inside of the value: another value. -/
theorem turned_in {l : List UInt8} {at' : List Int} (h : PutOk l at') {i k : Nat} {c : UInt8} (hc : c ≠ 0) (hi : i < at'.length) (hk : k < nAt l.length i) :
    GetOk l.length (turned (putPg l at' at'.length) i k c) ∧ got l.length (turned (putPg l at' at'.length) i k c) at'.length ≠ l := by
  have hg := getOk_put h
  have hp0 := putPg_at l at' at'.length i hi
  have hl : (putPg l at' at'.length).length = at'.length := by simp [putPg]
  have hk2 : k < 200 := by unfold nAt at hk; omega
  have hok : GetOk l.length (turned (putPg l at' at'.length) i k c) := by
    refine ⟨by rw [turned_len]; exact hg.1, by rw [turned_len]; exact hg.2.1, fun j q hq => ?_⟩
    rw [turned_len]
    rcases turned_get hp0 hq with ⟨rfl, rfl⟩ | ⟨_, hq⟩
    · have h0 := hg.2.2 _ _ hp0
      refine ⟨h0.1, h0.2.1, by rw [List.length_set]; exact h0.2.2.1, fun x hx => ?_⟩
      rw [List.drop_set, if_pos hk] at hx
      exact h0.2.2.2 x hx
    · exact hg.2.2 j q hq
  refine ⟨hok, fun he => ?_⟩
  have hall : ∀ (ps : List Pg), GetOk l.length ps → ∀ i, i < ps.length → ∃ p, ps[i]? = some p ∧ PgOk l.length ps.length i p := fun ps hps i hi => ⟨ps[i], by rw [List.getElem?_eq_getElem hi], hps.2.2 i _ (by rw [List.getElem?_eq_getElem hi])⟩
  have hle : at'.length ≤ pgI (l.length : Int) := by rw [← hl]; exact Nat.le_of_eq hg.2.1
  have g1 := got_at (z := l.length) (l := turned (putPg l at' at'.length) i k c) (len := _) at'.length hle (fun j hj => hall _ hok j (by rw [turned_len, hl]; exact hj)) i k _ hi (by rw [turned_at hp0, List.getElem?_set_self (by rw [hl]; exact hi)]) hk
  have g2 := got_at (z := l.length) (l := putPg l at' at'.length) (len := _) at'.length hle (fun j hj => hall _ hg j (by rw [hl]; exact hj)) i k _ hi hp0 hk
  rw [he] at g1
  rw [got_put_all h] at g2
  rw [g2] at g1
  have hbl : k < (body l i).length := by rw [body_len]; omega
  simp only [List.getElem?_set_self hbl, List.getElem?_eq_getElem hbl, List.getD_eq_getElem?_getD, Option.getD_some] at g1
  injection g1 with g1
  exact xor_ne hc g1.symm
/-- Turned outside of the value: no value. -/
theorem turned_out {l : List UInt8} {at' : List Int} (h : PutOk l at') {i k : Nat} {c : UInt8} (hc : c ≠ 0) (hi : i < at'.length) (hk : ¬ k < nAt l.length i) (h240 : k < 240) :
    ¬ GetOk l.length (turned (putPg l at' at'.length) i k c) := fun hg => by
  have hp0 := putPg_at l at' at'.length i hi
  have hl : (putPg l at' at'.length).length = at'.length := by simp [putPg]
  have h1 := (hg.2.2 i _ (by rw [turned_at hp0, List.getElem?_set_self (by rw [hl]; exact hi)])).2.2.2
  have h0 := body_drop l i
  have hbl : k < (body l i).length := by rw [body_len]; omega
  have hz : (body l i).getD k 0 = 0 := by
    rw [List.getD_eq_getElem?_getD, List.getElem?_eq_getElem hbl, Option.getD_some]
    refine h0 _ (List.mem_iff_getElem?.2 ⟨k - nAt l.length i, ?_⟩)
    rw [List.getElem?_drop, show nAt l.length i + (k - nAt l.length i) = k from by omega, List.getElem?_eq_getElem hbl]
  have h2 := h1 (0 ^^^ c) (List.mem_iff_getElem?.2 ⟨k - nAt l.length i, by
    rw [List.getElem?_drop, show nAt l.length i + (k - nAt l.length i) = k from by omega]
    show ((body l i).set k ((body l i).getD k 0 ^^^ c))[k]? = _
    rw [hz, List.getElem?_set_self hbl]⟩)
  rw [UInt8.zero_xor] at h2
  exact hc h2
/-- What is turned, in memory. -/
theorem pgs_turned {w : World} {g n i k : Nat} {c : UInt8} {ps : List Pg} {p : Pg} (h : Pgs w (some ⟨g, 0, none⟩) n ps) (hp : ps[i]? = some p) {S : ByteArray} (hS : S = str (p.b.set k (p.b.getD k 0 ^^^ c))) :
    Pgs (w.setCell ⟨g, i * 4 + 3, none⟩ (.string S)) (some ⟨g, 0, none⟩) n (turned ps i k c) := by
  subst hS
  refine ⟨by rw [turned_len]; exact h.1, h.2.1, fun h0 => ?_⟩
  obtain ⟨b, off, hA, hlt, hc⟩ := h.2.2 h0
  injection hA with hA
  injection hA with hA1 hA2
  subst hA1
  subst hA2
  refine ⟨g, 0, rfl, by simpa using hlt, fun j q hq t u hu => ?_⟩
  have ht : t < 4 := by have := (List.getElem?_eq_some_iff.1 hu).1; simpa [Pg.cells] using this
  rw [Nat.zero_add]
  rcases turned_get hp hq with ⟨rfl, rfl⟩ | ⟨hne, hq⟩
  · have h3 := hc j p hp 3 _ rfl
    rw [Nat.zero_add] at h3
    by_cases ht3 : t = 3
    · subst ht3
      rw [World.cell?_setCell_same _ _ _ h3]
      exact hu
    · rw [World.cell?_setCell_other _ _ _ _ (fun e => by injection e with _ e2; omega)]
      have h4 := hc j p hp t u (by
        match t, ht with
        | 0, _ => exact hu
        | 1, _ => exact hu
        | 2, _ => exact hu
        | 3, _ => exact absurd rfl ht3)
      rw [Nat.zero_add] at h4
      exact h4
  · rw [World.cell?_setCell_other _ _ _ _ (fun e => by injection e with _ e2; omega)]
    have h4 := hc j q hq t u hu
    rw [Nat.zero_add] at h4
    exact h4
end Go.Proofs.YtghbgajapdkofaaDoor.Bl
