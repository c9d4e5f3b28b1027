/- Pages as lists of bytes; the library's table of blanks. -/
import Derived.Test.YtibbmmkjienekaaDoorPage
import Derived.Test.YtibbmmkjienekaaDoorKeep
import Derived.Lib.LaidTab
import Derived.Lib.SlicesS
namespace Go.Proofs.YtibbmmkjienekaaDoor.Gr
open Go.RowKit Go.Proofs.YtibbmmkjienekaaDoor.Mem Go.Proofs.YtibbmmkjienekaaDoor.Pg Go.Proofs.YtibbmmkjienekaaDoor.Kp

/-- A page: its kind, its depth, the next one, its body. -/
structure Pag where
  k : Int
  d : Int
  x : Int
  l : List UInt8
def Pag.ok (p : Pag) : Prop := 0 ≤ p.k ∧ p.k < 6 ∧ 0 ≤ p.d ∧ p.d ≤ 5 ∧ 0 ≤ p.x ∧ p.x < 64 ∧ p.l.length = 240
instance (p : Pag) : Decidable p.ok := by unfold Pag.ok; infer_instance
def Pag.v (p : Pag) : Value := .agg #[.int .i64 p.k, .int .i64 p.d, .int .i64 p.x, .string (str p.l)]
def hd (k d x : Nat) : List UInt8 := [80, 71, UInt8.ofNat k, UInt8.ofNat d, 0, UInt8.ofNat x]
def Pag.bytes (p : Pag) : List UInt8 := hd p.k.toNat p.d.toNat p.x.toNat ++ zs 10 ++ p.l
/-- A page without anything. -/
def Pag.zero : Pag := ⟨0, 0, 0, zs 240⟩
/-- What these bytes are as a page. -/
def Shows (b : List UInt8) (p : Pag) : Prop := (p.ok ∧ b = p.bytes) ∨ (b = zs 256 ∧ p = Pag.zero)

theorem zs_len (n : Nat) : (zs n).length = n := List.length_replicate
theorem Pag.bytes_len {p : Pag} (h : p.ok) : p.bytes.length = 256 := by
  have := h.2.2.2.2.2.2
  simp [Pag.bytes, hd, zs_len, this]
theorem Shows.len {b : List UInt8} {p : Pag} (h : Shows b p) : b.length = 256 := by
  rcases h with ⟨h, rfl⟩ | ⟨rfl, _⟩
  · exact Pag.bytes_len h
  · exact zs_len 256
theorem Pag.zero_ok : Pag.zero.ok := by
  refine ⟨?_, ?_, ?_, ?_, ?_, ?_, zs_len 240⟩ <;> simp [Pag.zero]
theorem Shows.ok {b : List UInt8} {p : Pag} (h : Shows b p) : p.ok := by
  rcases h with ⟨h, rfl⟩ | ⟨_, rfl⟩
  · exact h
  · exact Pag.zero_ok
theorem Pag.bytes_head (p : Pag) : p.bytes[0]? = some 80 := by simp [Pag.bytes, hd]
theorem Pag.bytes_ne (p : Pag) : p.bytes ≠ zs 256 := fun h => by
  have h1 := p.bytes_head
  rw [h, zs, List.getElem?_replicate, if_pos (by omega)] at h1
  simp at h1
theorem Pag.body {p : Pag} : p.bytes.drop 16 = p.l := by
  have h1 : (hd p.k.toNat p.d.toNat p.x.toNat ++ zs 10).length = 16 := by simp [hd, zs_len]
  rw [Pag.bytes, ← h1, List.drop_left]
theorem Pag.at2 (p : Pag) : p.bytes[2]? = some (UInt8.ofNat p.k.toNat) := by simp [Pag.bytes, hd]
theorem Pag.at3 (p : Pag) : p.bytes[3]? = some (UInt8.ofNat p.d.toNat) := by simp [Pag.bytes, hd]
theorem Pag.at4 (p : Pag) : p.bytes[4]? = some 0 := by simp [Pag.bytes, hd]
theorem Pag.at5 (p : Pag) : p.bytes[5]? = some (UInt8.ofNat p.x.toNat) := by simp [Pag.bytes, hd]
theorem small_nat {a : Int} (h0 : 0 ≤ a) (h1 : a < 256) : (((UInt8.ofNat a.toNat).toNat : Nat) : Int) = a := by
  rw [UInt8.toNat_ofNat', Nat.mod_eq_of_lt (by omega)]
  omega
/-- Bytes show one page. -/
theorem Shows.one {b : List UInt8} {p q : Pag} (h : Shows b p) (k : Shows b q) : p = q := by
  rcases h with ⟨h, rfl⟩ | ⟨rfl, rfl⟩
  · rcases k with ⟨k, e⟩ | ⟨e, _⟩
    · have e2 := congrArg (fun l => l[2]?) e
      have e3 := congrArg (fun l => l[3]?) e
      have e5 := congrArg (fun l => l[5]?) e
      have eb := congrArg (fun l => List.drop 16 l) e
      simp only [Pag.at2, Pag.at3, Pag.at5, Option.some.injEq] at e2 e3 e5
      simp only [Pag.body] at eb
      obtain ⟨a1, a2, a3, a4, a5, a6, _⟩ := h
      obtain ⟨b1, b2, b3, b4, b5, b6, _⟩ := k
      have c2 := congrArg (fun u : UInt8 => ((u.toNat : Nat) : Int)) e2
      have c3 := congrArg (fun u : UInt8 => ((u.toNat : Nat) : Int)) e3
      have c5 := congrArg (fun u : UInt8 => ((u.toNat : Nat) : Int)) e5
      rw [small_nat a1 (by omega), small_nat b1 (by omega)] at c2
      rw [small_nat a3 (by omega), small_nat b3 (by omega)] at c3
      rw [small_nat a5 (by omega), small_nat b5 (by omega)] at c5
      cases p; cases q
      simp only at c2 c3 c5 eb
      simp [c2, c3, c5, eb]
    · exact absurd e (Pag.bytes_ne _)
  · rcases k with ⟨k, e⟩ | ⟨_, rfl⟩
    · exact absurd e.symm (Pag.bytes_ne _)
    · rfl

/-- The library's table of blanks is what it is. -/
def Tab (w : World) : Prop := Lib.TabIs Tryd.prog w "strings.asciiSpace" .u8 Lib.asciiSpaceTab
noncomputable def gtab : Nat := (Tryd.prog.globalNamed "strings.asciiSpace").getD 0
theorem gtab_eq : Tryd.prog.globalNamed "strings.asciiSpace" = some gtab := by
  have h : (Tryd.prog.globalNamed "strings.asciiSpace").isSome = true := by kernel_rfl
  rcases e : Tryd.prog.globalNamed "strings.asciiSpace" with _ | g
  · rw [e] at h; cases h
  · rw [gtab, e]; rfl
theorem Tab.lt {w : World} (h : Tab w) : gtab < w.heap.size := by
  unfold Tab Lib.TabIs World.var? at h
  rw [gtab_eq] at h
  simp only [Option.bind_some] at h
  rcases Nat.lt_or_ge gtab w.heap.size with k | k
  · exact k
  · rw [Array.getElem?_eq_none k] at h
    cases h
theorem Tab.of_block {w w' : World} (h : Tab w) (e : w'.heap[gtab]? = w.heap[gtab]?) : Tab w' := by
  unfold Tab Lib.TabIs World.var? at h ⊢
  rw [gtab_eq] at h ⊢
  simp only [Option.bind_some] at h ⊢
  rw [e]
  exact h
theorem Tab.below {w w' : World} (h : Tab w) (k : Below w.heap.size w w') : Tab w' := h.of_block (k.block _ h.lt)
theorem Tab.keep {w w' : World} {S : Nat → Prop} (h : Tab w) (k : Keep S w w') (hs : ¬ S gtab) : Tab w' := h.of_block (k.block _ h.lt hs)
theorem Tab.alloc {w : World} (h : Tab w) (o : Obj) : Tab (w.alloc o) := h.below (below_al (Below.refl _ w) o)
theorem Tab.drew {w : World} (h : Tab w) : Tab w.drew := h
end Go.Proofs.YtibbmmkjienekaaDoor.Gr
