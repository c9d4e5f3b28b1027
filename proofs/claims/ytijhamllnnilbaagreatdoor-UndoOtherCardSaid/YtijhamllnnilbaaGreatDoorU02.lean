/- Lemmas of the claim, in their order:
- Worlds that differ in certain blocks alone (those of the objects that a callee may write) and in new ones.
- Pages as lists of bytes; the library's table of blanks.
- Cells, as bytes and back: no program in sight.
-/
import Derived.Test.YtijhamllnnilbaaGreatDoorU01
import Derived.Lib.LaidTab
import Derived.Lib.SlicesS
import Derived.Lib.Bytealg
import Derived.Sort.Walk0
set_option linter.unusedVariables false
set_option linter.unusedSimpArgs false
namespace Go.Proofs.YtijhamllnnilbaaGreatDoor.Kp
open Go.RowKit Go.Proofs.YtijhamllnnilbaaGreatDoor.Mem

/-- Of the blocks that were there only those in S have been written. -/
structure Keep (S : Nat → Prop) (w w' : World) : Prop where
  os : w'.os = w.os
  tape : w'.tape = w.tape
  output : w'.output = w.output
  size : w.heap.size ≤ w'.heap.size
  block : ∀ i, i < w.heap.size → ¬ S i → w'.heap[i]? = w.heap[i]?
variable {S T : Nat → Prop} {w a b c : World}
theorem Keep.refl (S : Nat → Prop) (w : World) : Keep S w w := ⟨rfl, rfl, rfl, Nat.le_refl _, fun _ _ _ => rfl⟩
theorem Keep.trans (h : Keep S a b) (k : Keep S b c) : Keep S a c :=
  ⟨k.os.trans h.os, k.tape.trans h.tape, k.output.trans h.output, Nat.le_trans h.size k.size, fun i hi hs => (k.block i (Nat.lt_of_lt_of_le hi h.size) hs).trans (h.block i hi hs)⟩
theorem Keep.mono (h : Keep S a b) (k : ∀ i, S i → T i) : Keep T a b := ⟨h.os, h.tape, h.output, h.size, fun i hi hs => h.block i hi (fun h' => hs (k i h'))⟩
theorem Keep.of_below (h : Below a.heap.size a b) : Keep S a b := ⟨h.os, h.tape, h.output, h.size, fun i hi _ => h.block i hi⟩
theorem Keep.below (h : Keep S a b) (k : Below b.heap.size b c) : Keep S a c := h.trans (.of_below k)
theorem Keep.alloc (h : Keep S a b) (o : Obj) : Keep S a (b.alloc o) := h.below (below_al (Below.refl _ b) o)
theorem Keep.grown {row : Option Nat} (h : a.grownBy b row) (k : ∀ j, row = some j → S j) : Keep S a b := ⟨h.os, h.tape, h.output, h.size, fun i hi hs => h.block i hi (fun e => hs (k i e.symm))⟩
/-- An object of the caller's own is kept with the rest: what was laid behind a is nobody's concern. -/
theorem Keep.setCell (h : Keep S a b) {g j : Nat} (k : S g ∨ a.heap.size ≤ g) (u : Value) : Keep S a (b.setCell ⟨g, j, none⟩ u) :=
  ⟨h.os, h.tape, h.output, by simpa using h.size, fun i hi hs => by
    rw [heap_setCell_other _ _ _ _ (show i ≠ g from fun e => by subst e; rcases k with k | k; exact hs k; omega)]
    exact h.block i hi hs⟩
/-- From the world behind a callee's start, whose own S may also hold blocks that are new since a. -/
theorem Keep.trans' (h : Keep S a b) (k : Keep T b c) (hk : ∀ i, T i → S i ∨ a.heap.size ≤ i) : Keep S a c :=
  ⟨k.os.trans h.os, k.tape.trans h.tape, k.output.trans h.output, Nat.le_trans h.size k.size, fun i hi hs => (k.block i (Nat.lt_of_lt_of_le hi h.size) (fun ht => by rcases hk i ht with h1 | h1; exact hs h1; omega)).trans (h.block i hi hs)⟩
theorem Keep.blk (h : Keep S a b) {g : Nat} {X : Obj} (hx : a.heap[g]? = some X) (hg : ¬ S g) : b.heap[g]? = some X := (h.block g (lt_of_block hx) hg).trans hx
theorem Keep.cell (h : Keep S a b) {g o : Nat} (hlt : g < a.heap.size) (hg : ¬ S g) : b.cell? ⟨g, o, none⟩ = a.cell? ⟨g, o, none⟩ := by
  unfold World.cell?
  simp only [h.block g hlt hg]
theorem Keep.to_below (h : Keep S a b) {B : Nat} (hB : B ≤ a.heap.size) (hs : ∀ i, S i → B ≤ i) : Below B a b :=
  ⟨h.os, h.tape, h.output, h.size, fun i hi => h.block i (by omega) (fun h' => by have := hs i h'; omega)⟩
theorem Keep.row (h : Keep S a b) {base : Nat} {e : TypeId} {size n : Nat} {v : Value} {xs : List Value} (hr : a.ownsRow base e size v n xs) (hg : ∀ g, v.ownBlock = some g → ¬ S g) : b.ownsRow base e size v n xs := by
  refine ⟨hr.1, ?_⟩
  rcases hr.2 with h2 | ⟨g, cap, cur, rfl, h2, h3, h4⟩
  · exact .inl h2
  · exact .inr ⟨g, cap, cur, rfl, h2, (h.blk h3 (hg g rfl)), h4⟩
theorem row_mono {w : World} {base B : Nat} {e : TypeId} {size n : Nat} {v : Value} {xs : List Value} (h : w.ownsRow base e size v n xs) (hb : B ≤ base) : w.ownsRow B e size v n xs := by
  refine ⟨h.1, ?_⟩
  rcases h.2 with h2 | ⟨g, cap, cur, h1, h2, h3⟩
  · exact .inl h2
  · exact .inr ⟨g, cap, cur, h1, Nat.le_trans hb h2, h3⟩
theorem row_ge {w : World} {base : Nat} {e : TypeId} {size n : Nat} {v : Value} {xs : List Value} (h : w.ownsRow base e size v n xs) (g : Nat) (hg : v.ownBlock = some g) : base ≤ g := own_base h g hg
end Go.Proofs.YtijhamllnnilbaaGreatDoor.Kp
namespace Go.Proofs.YtijhamllnnilbaaGreatDoor.Gr
open Go.RowKit Go.Proofs.YtijhamllnnilbaaGreatDoor.Mem Go.Proofs.YtijhamllnnilbaaGreatDoor.Pg Go.Proofs.YtijhamllnnilbaaGreatDoor.Kp

/-- A page: its kind, its depth, the next one, its body. -/
structure Pag where
  k : Int
  d : Int
  x : Int
  l : List UInt8
def Pag.ok (p : Pag) : Prop := 0 ≤ p.k ∧ p.k < 6 ∧ 0 ≤ p.d ∧ p.d ≤ 5 ∧ 0 ≤ p.x ∧ p.x < 64 ∧ p.l.length = 240
instance (p : Pag) : Decidable p.ok := by unfold Pag.ok; infer_instance
def Pag.v (p : Pag) : Value := .agg #[.int .i64 p.k, .int .i64 p.d, .int .i64 p.x, .string (str p.l)]
def hd (k d x : Nat) : List UInt8 := [80, 71, UInt8.ofNat k, UInt8.ofNat d, 0, UInt8.ofNat x]
def Pag.bytes (p : Pag) : List UInt8 := hd p.k.toNat p.d.toNat p.x.toNat ++ zs 10 ++ p.l
/-- A page without anything. -/
def Pag.zero : Pag := ⟨0, 0, 0, zs 240⟩
/-- What these bytes are as a page. -/
def Shows (b : List UInt8) (p : Pag) : Prop := (p.ok ∧ b = p.bytes) ∨ (b = zs 256 ∧ p = Pag.zero)

theorem zs_len (n : Nat) : (zs n).length = n := List.length_replicate
theorem Pag.bytes_len {p : Pag} (h : p.ok) : p.bytes.length = 256 := by
  have := h.2.2.2.2.2.2
  simp [Pag.bytes, hd, zs_len, this]
theorem Shows.len {b : List UInt8} {p : Pag} (h : Shows b p) : b.length = 256 := by
  rcases h with ⟨h, rfl⟩ | ⟨rfl, _⟩
  · exact Pag.bytes_len h
  · exact zs_len 256
theorem Pag.zero_ok : Pag.zero.ok := by
  refine ⟨?_, ?_, ?_, ?_, ?_, ?_, zs_len 240⟩ <;> simp [Pag.zero]
theorem Shows.ok {b : List UInt8} {p : Pag} (h : Shows b p) : p.ok := by
  rcases h with ⟨h, rfl⟩ | ⟨_, rfl⟩
  · exact h
  · exact Pag.zero_ok
theorem Pag.bytes_head (p : Pag) : p.bytes[0]? = some 80 := by simp [Pag.bytes, hd]
theorem Pag.bytes_ne (p : Pag) : p.bytes ≠ zs 256 := fun h => by
  have h1 := p.bytes_head
  rw [h, zs, List.getElem?_replicate, if_pos (by omega)] at h1
  simp at h1
theorem Pag.body {p : Pag} : p.bytes.drop 16 = p.l := by
  have h1 : (hd p.k.toNat p.d.toNat p.x.toNat ++ zs 10).length = 16 := by simp [hd, zs_len]
  rw [Pag.bytes, ← h1, List.drop_left]
theorem Pag.at2 (p : Pag) : p.bytes[2]? = some (UInt8.ofNat p.k.toNat) := by simp [Pag.bytes, hd]
theorem Pag.at3 (p : Pag) : p.bytes[3]? = some (UInt8.ofNat p.d.toNat) := by simp [Pag.bytes, hd]
theorem Pag.at4 (p : Pag) : p.bytes[4]? = some 0 := by simp [Pag.bytes, hd]
theorem Pag.at5 (p : Pag) : p.bytes[5]? = some (UInt8.ofNat p.x.toNat) := by simp [Pag.bytes, hd]
theorem small_nat {a : Int} (h0 : 0 ≤ a) (h1 : a < 256) : (((UInt8.ofNat a.toNat).toNat : Nat) : Int) = a := by
  rw [UInt8.toNat_ofNat', Nat.mod_eq_of_lt (by omega)]
  omega
/-- The library's table of blanks is what it is. -/
def Tab (w : World) : Prop := Lib.TabIs Tryz.prog w "strings.asciiSpace" .u8 Lib.asciiSpaceTab
noncomputable def gtab : Nat := (Tryz.prog.globalNamed "strings.asciiSpace").getD 0
theorem gtab_eq : Tryz.prog.globalNamed "strings.asciiSpace" = some gtab := by
  have h : (Tryz.prog.globalNamed "strings.asciiSpace").isSome = true := by kernel_rfl
  rcases e : Tryz.prog.globalNamed "strings.asciiSpace" with _ | g
  · rw [e] at h; cases h
  · rw [gtab, e]; rfl
theorem Tab.lt {w : World} (h : Tab w) : gtab < w.heap.size := by
  unfold Tab Lib.TabIs World.var? at h
  rw [gtab_eq] at h
  simp only [Option.bind_some] at h
  rcases Nat.lt_or_ge gtab w.heap.size with k | k
  · exact k
  · rw [Array.getElem?_eq_none k] at h
    cases h
theorem Tab.of_block {w w' : World} (h : Tab w) (e : w'.heap[gtab]? = w.heap[gtab]?) : Tab w' := by
  unfold Tab Lib.TabIs World.var? at h ⊢
  rw [gtab_eq] at h ⊢
  simp only [Option.bind_some] at h ⊢
  rw [e]
  exact h
theorem Tab.below {w w' : World} (h : Tab w) (k : Below w.heap.size w w') : Tab w' := h.of_block (k.block _ h.lt)
theorem Tab.keep {w w' : World} {S : Nat → Prop} (h : Tab w) (k : Keep S w w') (hs : ¬ S gtab) : Tab w' := h.of_block (k.block _ h.lt hs)
theorem Tab.alloc {w : World} (h : Tab w) (o : Obj) : Tab (w.alloc o) := h.below (below_al (Below.refl _ w) o)
theorem Tab.drew {w : World} (h : Tab w) : Tab w.drew := h
end Go.Proofs.YtijhamllnnilbaaGreatDoor.Gr
namespace Go.Proofs.YtijhamllnnilbaaGreatDoor.Ha
open Go.RowKit Go.Proofs.YtijhamllnnilbaaGreatDoor.Mem Go.Proofs.YtijhamllnnilbaaGreatDoor.Pg Go.Proofs.YtijhamllnnilbaaGreatDoor.Gr
set_option linter.unusedVariables false
set_option linter.unusedSimpArgs false

/-- A key's hash. -/
def sumN (h : Nat) : List UInt8 → Nat
  | [] => h
  | b :: l => sumN (((h ^^^ b.toNat) * 16777619) % 4294967296) l
def sumF (l : List UInt8) : Nat := sumN 2166136261 l
/-- A key's lowest bits. -/
def bitsF (l : List UInt8) (d : Nat) : Nat := sumF l % 2 ^ d
theorem sumN_lt (h : Nat) (hh : h < 4294967296) : ∀ l, sumN h l < 4294967296 := by
  intro l
  induction l generalizing h with
  | nil => exact hh
  | cons b l ih => exact ih _ (Nat.mod_lt _ (by omega))
theorem sumF_lt (l : List UInt8) : sumF l < 4294967296 := sumN_lt _ (by omega) l
theorem sumN_append (h : Nat) (l m : List UInt8) : sumN h (l ++ m) = sumN (sumN h l) m := by
  induction l generalizing h with
  | nil => rfl
  | cons b l ih => exact ih _

/-- A cell. -/
structure Cel where
  key : List UInt8
  val : List UInt8
  blob : Nat
  size : Nat
def keyOk (l : List UInt8) : Prop := l ≠ [] ∧ l.length ≤ 16
instance (l : List UInt8) : Decidable (keyOk l) := inferInstanceAs (Decidable (_ ∧ _))
structure Cel.ok (c : Cel) : Prop where
  key : keyOk c.key
  rest : (c.blob = 0 ∧ c.val.length ≤ 40 ∧ c.size = 0) ∨ (2 ≤ c.blob ∧ c.blob < 64 ∧ c.val = [] ∧ 40 < c.size ∧ c.size ≤ 400)
def Cel.cells (c : Cel) : List Value := [.string (str c.key), .string (str c.val), .int .i64 c.blob, .int .i64 c.size]
def Cel.v (c : Cel) : Value := .agg #[.string (str c.key), .string (str c.val), .int .i64 c.blob, .int .i64 c.size]
def flatC (l : List Cel) : List Value := l.flatMap Cel.cells
theorem flatC_len (l : List Cel) : (flatC l).length = l.length * 4 := by
  induction l with
  | nil => rfl
  | cons a l ih => simp [flatC, Cel.cells] at ih ⊢; omega
theorem flatC_append (l m : List Cel) : flatC (l ++ m) = flatC l ++ flatC m := by simp [flatC]
theorem flatC_at {l : List Cel} {j : Nat} (hj : j < l.length) (r : Nat) (hr : r < 4) : (flatC l)[j * 4 + r]? = (l[j].cells)[r]? := by
  induction l generalizing j with
  | nil => simp at hj
  | cons a l ih =>
    have hf : flatC (a :: l) = a.cells ++ flatC l := by simp [flatC]
    have ha : a.cells.length = 4 := rfl
    rcases j with _ | j
    · rw [hf, List.getElem?_append_left (by omega)]
      simp
    · rw [hf, List.getElem?_append_right (by omega)]
      have e : (j + 1) * 4 + r - a.cells.length = j * 4 + r := by omega
      rw [e, ih (by simpa using hj)]
      simp
/-- How many bytes it takes. -/
def Cel.sz (c : Cel) : Nat := 4 + c.key.length + (if c.blob = 0 then c.val.length else 2)
def num2 (n : Nat) : List UInt8 := [UInt8.ofNat (n / 256), UInt8.ofNat (n % 256)]
def Cel.enc (c : Cel) : List UInt8 := UInt8.ofNat c.key.length :: c.key ++ (if c.blob = 0 then 0 :: num2 c.val.length ++ c.val else 1 :: num2 c.size ++ num2 c.blob)
theorem Cel.enc_len (c : Cel) : c.enc.length = c.sz := by
  unfold Cel.enc Cel.sz num2
  split <;> simp <;> first | done | omega
def encs (l : List Cel) : List UInt8 := l.flatMap Cel.enc
theorem encs_append (l m : List Cel) : encs (l ++ m) = encs l ++ encs m := by simp [encs]
def szs (l : List Cel) : Nat := (l.map Cel.sz).sum
theorem encs_len (l : List Cel) : (encs l).length = szs l := by
  induction l with
  | nil => rfl
  | cons a l ih =>
    simp [encs, szs, Cel.enc_len] at ih ⊢
    first | done | omega
theorem szs_append (l m : List Cel) : szs (l ++ m) = szs l + szs m := by simp [szs]
theorem szs_ge (l : List Cel) : 4 * l.length ≤ szs l := by
  induction l with
  | nil => simp [szs]
  | cons a l ih => simp [szs, Cel.sz] at ih ⊢; omega
/-- Cells that a page has room for, by their keys. -/
structure Fits (l : List Cel) : Prop where
  ok : ∀ c, c ∈ l → c.ok
  lt : l.Pairwise (fun a b => a.key < b.key)
  room : szs l ≤ 239
theorem Fits.len {l : List Cel} (h : Fits l) : l.length ≤ 59 := by
  have := szs_ge l
  have := h.room
  omega
/-- A page's body. -/
def bodyF (l : List Cel) : List UInt8 := UInt8.ofNat l.length :: encs l ++ zs (239 - szs l)
theorem bodyF_len {l : List Cel} (h : Fits l) : (bodyF l).length = 240 := by
  have := h.room
  simp [bodyF, encs_len, zs_len]
  omega
theorem bodyF_nil : bodyF [] = zs 240 := by
  show (0 : UInt8) :: ([] ++ zs 239) = zs 240
  rfl
theorem fits_nil : Fits [] := ⟨(fun c h => by cases h), List.Pairwise.nil, (by simp [szs])⟩
/-- Go's order of texts. -/
theorem cmp_lt_iff : ∀ a b : List UInt8, Lib.compareBytes a b < 0 ↔ a < b
  | [], [] => by simp [Lib.compareBytes]
  | [], _ :: _ => by simp [Lib.compareBytes]
  | _ :: _, [] => by simp [Lib.compareBytes]
  | x :: a, y :: b => by
    unfold Lib.compareBytes
    rw [List.cons_lt_cons_iff]
    by_cases h1 : x < y
    · simp [h1]
    · by_cases h2 : y < x
      · have hne : x ≠ y := fun e => by subst e; exact UInt8.lt_irrefl x h2
        simp [h1, h2, hne]
      · have hxy : x = y := by
          have := UInt8.not_lt.1 h1
          have := UInt8.not_lt.1 h2
          exact UInt8.le_antisymm (by assumption) (by assumption)
        simp [h1, h2, hxy, cmp_lt_iff a b]
theorem cmp_eq_iff : ∀ a b : List UInt8, Lib.compareBytes a b = 0 ↔ a = b
  | [], [] => by simp [Lib.compareBytes]
  | [], _ :: _ => by simp [Lib.compareBytes]
  | _ :: _, [] => by simp [Lib.compareBytes]
  | x :: a, y :: b => by
    unfold Lib.compareBytes
    by_cases h1 : x < y
    · have hne : x ≠ y := fun e => by subst e; exact UInt8.lt_irrefl x h1
      simp [h1, hne]
    · by_cases h2 : y < x
      · have hne : x ≠ y := fun e => by subst e; exact UInt8.lt_irrefl x h2
        simp [h1, h2, hne]
      · have hxy : x = y := by
          have := UInt8.not_lt.1 h1
          have := UInt8.not_lt.1 h2
          exact UInt8.le_antisymm (by assumption) (by assumption)
        simp [h1, h2, hxy, cmp_eq_iff a b]
theorem list_lt_irrefl (a : List UInt8) : ¬ a < a := List.lt_irrefl a
theorem list_lt_trans {a b c : List UInt8} (h : a < b) (k : b < c) : a < c := List.lt_trans h k
end Go.Proofs.YtijhamllnnilbaaGreatDoor.Ha
