/- Lemmas of the claim, in their order:
- A group over a store of n pages, by the pages that it shows.
- The contract of blob.Put.
-/
import Derived.Test.YtijhamllnnilbaaGreatDoorQ11
set_option linter.unusedVariables false
set_option linter.unusedSimpArgs false
namespace Go.Proofs.YtijhamllnnilbaaGreatDoor.Gr
open Go.RowKit Go.Proofs.YtijhamllnnilbaaGreatDoor.Mem Go.Proofs.YtijhamllnnilbaaGreatDoor.Pg Go.Proofs.YtijhamllnnilbaaGreatDoor.Kp Go.Proofs.YtijhamllnnilbaaGreatDoor.Sp
set_option linter.unusedVariables false

def updN (pg : Nat → Pag) (i : Nat) (p : Pag) : Nat → Pag := fun j => if j = i then p else pg j
theorem updN_same (pg : Nat → Pag) (i : Nat) (p : Pag) : updN pg i p i = p := if_pos rfl
theorem updN_other (pg : Nat → Pag) {i j : Nat} (p : Pag) (h : j ≠ i) : updN pg i p j = pg j := if_neg h
structure GV (w0 w : World) (gb mb sb qb c n : Nat) (pg : Nat → Pag) (tk : Int) : Prop where
 tab : Tab w
 st : ∃ B M, Sto w sb qb n c (-1) B ∧ Grp w gb mb sb M tk ∧ ∀ i, i < n → ∃ b, seen n (-1) B M i = (b, 0) ∧ Shows b (pg i)
 n64 : n ≤ 64
 bel : Below w0.heap.size w0 w
 ord : w0.heap.size ≤ gb ∧ w0.heap.size ≤ mb ∧ sb < gb ∧ sb < mb ∧ qb < gb ∧ qb < mb ∧ gtab < gb ∧ gtab < mb
section
variable {w0 w w' : World} {gb mb sb qb c n : Nat} {pg : Nat → Pag} {tk : Int}
theorem GV.below (h : GV w0 w gb mb sb qb c n pg tk) (k : Below w.heap.size w w') : GV w0 w' gb mb sb qb c n pg tk := by
 obtain ⟨B, M, h1, h2, h3⟩ := h.st
 exact ⟨h.tab.below k, ⟨B, M, h1.below k, h2.below k, h3⟩, h.n64, below_base h.bel h.bel.size k, h.ord⟩
theorem GV.keep {S : Nat → Prop} (h : GV w0 w gb mb sb qb c n pg tk) (k : Keep S w w') (hS : ∀ i, S i → i ≠ gb ∧ i ≠ mb ∧ w0.heap.size ≤ i ∧ i ≠ sb ∧ i ≠ qb ∧ i ≠ gtab) : GV w0 w' gb mb sb qb c n pg tk := by
 obtain ⟨B, M, h1, h2, h3⟩ := h.st
 exact ⟨h.tab.keep k (fun e => (hS _ e).2.2.2.2.2 rfl), ⟨B, M, h1.keep k (fun e => (hS _ e).2.2.2.1 rfl) (fun e => (hS _ e).2.2.2.2.1 rfl), h2.keep k (fun e => (hS _ e).1 rfl) (fun e => (hS _ e).2.1 rfl), h3⟩, h.n64, below_keep h.bel h.bel.size k (fun i hi => (hS i hi).2.2.1), h.ord⟩
theorem GV.lt (h : GV w0 w gb mb sb qb c n pg tk) : gb < w.heap.size ∧ mb < w.heap.size ∧ sb < w.heap.size ∧ qb < w.heap.size := by
 obtain ⟨B, M, h1, h2, h3⟩ := h.st
 exact ⟨h2.lt1, h2.lt2, h1.lt1, h1.lt2⟩
theorem GV.ok (h : GV w0 w gb mb sb qb c n pg tk) {i : Nat} (hi : i < n) : (pg i).ok := by
 obtain ⟨B, M, h1, h2, h3⟩ := h.st
 obtain ⟨b, _, hs⟩ := h3 i hi
 exact hs.ok
theorem GV.get (h : GV w0 w gb mb sb qb c n pg tk) (i : Nat) (hi : i < n) :
 Calls Tryz.prog 64 #[.pointer (some ⟨gb, 0, none⟩), .int .i64 i] w fun e w' => e = .returned (.tuple #[(pg i).v, .int .i64 0]) ∧ Below w.heap.size w w' := by
 obtain ⟨B, M, h1, h2, h3⟩ := h.st
 obtain ⟨b, hb, hs⟩ := h3 i hi
 have := h.n64
 exact gget_any w gb mb sb qb n c (-1) B M tk i (kl_wf (by omega) (by omega)) h.tab h1 h2 b (pg i) hb hs
theorem seen_put {n : Nat} {dead : Int} {B : Nat → List UInt8} {M : Int → Option (List UInt8)} {i : Nat} {p : Pag} (hp : p.ok) (h : ∀ j, j < n → ∃ b, seen n dead B M j = (b, 0) ∧ Shows b (pg j)) :
 ∀ j, j < n → ∃ b, seen n dead B (upd M i p.bytes) j = (b, 0) ∧ Shows b (updN pg i p j) := by
 intro j hj
 by_cases e : j = i
 · subst e
   refine ⟨p.bytes, ?_, ?_⟩
   · unfold seen; rw [upd_same]
   · rw [updN_same]; exact .inl ⟨hp, rfl⟩
 · obtain ⟨b, h1, h2⟩ := h j hj
   refine ⟨b, ?_, by rw [updN_other _ _ e]; exact h2⟩
   unfold seen upd at *
   rw [if_neg (by omega)]
   exact h1
theorem GV.put (h : GV w0 w gb mb sb qb c n pg tk) (i : Nat) (hi : i < n) (p : Pag) (hp : p.ok) :
 Calls Tryz.prog 75 #[.pointer (some ⟨gb, 0, none⟩), .int .i64 i, p.v] w fun e w' => e = .returned (.int .i64 0) ∧ GV w0 w' gb mb sb qb c n (updN pg i p) tk ∧ Keep (fun j => j = mb) w w' := by
 obtain ⟨B, M, h1, h2, h3⟩ := h.st
 have h64 := h.n64
 have o := h.ord
 refine (gput_ok w gb mb sb M tk i p h.tab h2 hp (by omega) (by omega)).mono ?_
 rintro e w' ⟨rfl, g', k'⟩
 exact ⟨rfl, ⟨h.tab.keep k' (by omega), ⟨B, _, h1.keep k' (by omega) (by omega), g', seen_put hp h3⟩, h64, below_keep h.bel h.bel.size k' (by omega), o⟩, k'⟩
theorem GV.mapPage (h : GV w0 w gb mb sb qb c n pg tk) {d x : Int} {l : List UInt8} (hp : pg 1 = ⟨2, d, x, l⟩) (h1 : 1 < n) : ∃ B M, Sto w sb qb n c (-1) B ∧ Grp w gb mb sb M tk ∧ (∀ i, i < n → ∃ b, seen n (-1) B M i = (b, 0) ∧ Shows b (pg i)) ∧ MapPage n (-1) B M d x l := by
 obtain ⟨B, M, h2, h3, h4⟩ := h.st
 refine ⟨B, M, h2, h3, h4, ⟨?_⟩⟩
 rw [← hp]
 exact h4 1 h1
theorem GV.take (h : GV w0 w gb mb sb qb c n pg tk) {d x : Int} {l : List UInt8} (hp : pg 1 = ⟨2, d, x, l⟩) (hm : IsMap n l) (hk : -1000000 ≤ tk ∧ tk ≤ 1000000) (i : Nat) (hi : takeI 2 l = i) (hn : i < n) :
 Calls Tryz.prog 73 #[.pointer (some ⟨gb, 0, none⟩)] w fun e w' => e = .returned (.tuple #[.int .i64 i, .int .i64 0]) ∧ GV w0 w' gb mb sb qb c n (updN pg 1 ⟨2, d, x, l.set i 1⟩) (tk + 1) ∧ Keep (fun j => j = gb ∨ j = mb) w w' := by
 have h8 := hm.ge
 obtain ⟨B, M, h2, h3, h4, h5⟩ := h.mapPage hp (by omega)
 have o := h.ord
 refine (gtake_ok w gb mb sb qb n c (-1) B M tk d x l h.tab h2 h3 h5 i hi (by rw [pagesF_map hm]; exact hn) hk ⟨o.2.2.2.2.2.2.1, o.2.2.2.2.2.2.2⟩).mono ?_
 rintro e w' ⟨rfl, g', k'⟩
 have hok : Pag.ok ⟨2, d, x, l.set i 1⟩ := by
  obtain ⟨a1, a2, a3, a4, a5, a6, a7⟩ := h5.ok
  exact Pag.ok_mk ⟨a1, a2⟩ ⟨a3, a4⟩ ⟨a5, a6⟩ (by simpa using a7)
 exact ⟨rfl, ⟨h.tab.keep k' (by omega), ⟨B, _, h2.keep k' (by omega) (by omega), g', seen_put (i := 1) hok h4⟩, h.n64, below_keep h.bel h.bel.size k' (by omega), o⟩, k'⟩
theorem GV.take_no (h : GV w0 w gb mb sb qb c n pg tk) {d x : Int} {l : List UInt8} (hp : pg 1 = ⟨2, d, x, l⟩) (hm : IsMap n l) (hi : takeI 2 l < 0) :
 Calls Tryz.prog 73 #[.pointer (some ⟨gb, 0, none⟩)] w fun e w' => e = .returned (.tuple #[.int .i64 0, .int .i64 6]) ∧ Below w.heap.size w w' := by
 have h8 := hm.ge
 obtain ⟨B, M, h2, h3, h4, h5⟩ := h.mapPage hp (by omega)
 exact gtake_no w gb mb sb qb n c (-1) B M tk d x l h.tab h2 h3 h5 hi (by rw [pagesF_map hm]; omega)
theorem GV.give (h : GV w0 w gb mb sb qb c n pg tk) {d x : Int} {l : List UInt8} (hp : pg 1 = ⟨2, d, x, l⟩) (hm : IsMap n l) (hk : -1000000 ≤ tk ∧ tk ≤ 1000000) (i : Nat) (h2' : 2 ≤ i) (hn : i < n) (hi : bt l i = 1) :
 Calls Tryz.prog 28 #[.pointer (some ⟨gb, 0, none⟩), .int .i64 i] w fun e w' => e = .returned (.int .i64 0) ∧ GV w0 w' gb mb sb qb c n (updN pg 1 ⟨2, d, x, l.set i 2⟩) (tk - 1) ∧ Keep (fun j => j = gb ∨ j = mb) w w' := by
 have h8 := hm.ge
 obtain ⟨B, M, h2, h3, h4, h5⟩ := h.mapPage hp (by omega)
 have o := h.ord
 refine (ggive_ok w gb mb sb qb n c (-1) B M tk d x l h.tab h2 h3 h5 i h2' ((usedF_map hm i).2 ⟨by omega, by omega, by rw [Int.toNat_natCast]; exact hi⟩) hk ⟨o.2.2.2.2.2.2.1, o.2.2.2.2.2.2.2⟩).mono ?_
 rintro e w' ⟨rfl, g', k'⟩
 have hok : Pag.ok ⟨2, d, x, l.set i 2⟩ := by
  obtain ⟨a1, a2, a3, a4, a5, a6, a7⟩ := h5.ok
  exact Pag.ok_mk ⟨a1, a2⟩ ⟨a3, a4⟩ ⟨a5, a6⟩ (by simpa using a7)
 exact ⟨rfl, ⟨h.tab.keep k' (by omega), ⟨B, _, h2.keep k' (by omega) (by omega), g', seen_put (i := 1) hok h4⟩, h.n64, below_keep h.bel h.bel.size k' (by omega), o⟩, k'⟩
theorem GV.free (h : GV w0 w gb mb sb qb c n pg tk) {d x : Int} {l : List UInt8} (hp : pg 1 = ⟨2, d, x, l⟩) (hm : IsMap n l) :
 Calls Tryz.prog 29 #[.pointer (some ⟨gb, 0, none⟩)] w fun e w' => e = .returned (.int .i64 ((l.take n).count 2 : Nat)) ∧ Below w.heap.size w w' := by
 have h8 := hm.ge
 obtain ⟨B, M, h2, h3, h4, h5⟩ := h.mapPage hp (by omega)
 have := gfree_any w gb mb sb qb n c (-1) B M tk d x l h.tab h2 h3 h5
 rw [pagesF_map hm] at this
 exact this
end
end Go.Proofs.YtijhamllnnilbaaGreatDoor.Gr
namespace Go.Proofs.YtijhamllnnilbaaGreatDoor.Bl
open Go.RowKit Go.Proofs.YtijhamllnnilbaaGreatDoor.Mem Go.Proofs.YtijhamllnnilbaaGreatDoor.Pg

def part (l : List UInt8) (i : Nat) : List UInt8 := (l.drop (200 * i)).take 200
def body (l : List UInt8) (i : Nat) : List UInt8 := part l i ++ zs (240 - (part l i).length)
def nextOf (at' : List Int) (i : Nat) : Int := if i + 1 < at'.length then at'.getD (i + 1) 0 else 0
def pgRow (l : List UInt8) (at' : List Int) (i : Nat) : List Value := [.int .i64 5, .int .i64 0, .int .i64 (nextOf at' i), .string (str (body l i))]
def rows (l : List UInt8) (at' : List Int) : Nat → List Value
 | 0 => []
 | n + 1 => rows l at' n ++ pgRow l at' n
theorem rows_length (l : List UInt8) (at' : List Int) (n : Nat) : (rows l at' n).length = n * 4 := by
 induction n with
 | zero => rfl
 | succ n ih => rw [rows, List.length_append, ih]; simp [pgRow]; omega
theorem info_page : (Tryz.prog.info? 113).map (fun i => (i.zero, i.size, i.bytes)) = some (some (.agg #[.int .i64 0, .int .i64 0, .int .i64 0, .string ⟨#[]⟩]), 4, 40) := by kernel_rfl
theorem part_len (l : List UInt8) (j : Nat) : (part l j).length = min (l.length - 200 * j) 200 := by simp [part]; omega
theorem body_code {l : List UInt8} {j c : Nat} {sv Z : ByteArray} (hs : sv = str (l.drop (200 * j))) (hZ : Z = str (zs 240)) (hc : c = min sv.size 200) : sv.extract 0 c ++ Z.extract c 240 = str (body l j) := by
 subst hs hZ
 have hlen := part_len l j
 rw [str_size, List.length_drop] at hc
 have h1 : (l.drop (200 * j)).take c = part l j := by
  rw [part, hc]
  rcases Nat.le_total (l.length - 200 * j) 200 with h | h
  · rw [Nat.min_eq_left h, List.take_of_length_le (by simp), List.take_of_length_le (by simp; omega)]
  · rw [Nat.min_eq_right h]
 have h2 : ((zs 240).drop c).take (240 - c) = zs (240 - (part l j).length) := by
  rw [hlen, ← hc, zs, zs, List.drop_replicate, List.take_replicate, Nat.min_self]
 apply ByteArray.ext
 apply Array.toList_inj.1
 simp only [ByteArray.data_append, ByteArray.data_extract, Array.toList_append, Array.toList_extract, List.extract, body, Nat.sub_zero, List.drop_zero]
 rw [h1, h2]
theorem rest_code {l : List UInt8} {j c : Nat} {sv : ByteArray} (hs : sv = str (l.drop (200 * j))) (hc : c = min sv.size 200) : sv.extract c sv.size = str (l.drop (200 * (j + 1))) := by
 subst hs
 rw [str_size, List.length_drop] at hc
 apply ByteArray.ext
 apply Array.toList_inj.1
 simp only [ByteArray.data_extract, Array.toList_extract, List.extract, str_size, List.length_drop]
 rw [List.take_of_length_le (by rw [List.length_drop, List.length_drop]; omega), List.drop_drop]
 rcases Nat.le_total (l.length - 200 * j) 200 with h | h
 · rw [List.drop_eq_nil_of_le (by omega), List.drop_eq_nil_of_le (by omega)]
 · rw [show 200 * j + c = 200 * (j + 1) by omega]
def OkAt (at' : List Int) (i : Nat) : Prop := 2 ≤ at'.getD i 0 ∧ at'.getD i 0 < 64 ∧ (at'.take i).contains (at'.getD i 0) = false
def PutOk (l : List UInt8) (at' : List Int) : Prop := at'.length ≠ 0 ∧ at'.length = pgN l.length ∧ ∀ i, i < at'.length → OkAt at' i
def PutPost (w : World) (l : List UInt8) (at' : List Int) (e : Ending) (w' : World) : Prop :=
 (PutOk l at' ∧ ∃ v, e = .returned (.tuple #[v, .bool true]) ∧ w'.ownsRow w.heap.size 113 4 v at'.length (rows l at' at'.length) ∧ Below w.heap.size w w') ∨
 (¬ PutOk l at' ∧ e = .returned (.tuple #[.slice none 0 0, .bool false]) ∧ Below w.heap.size w w')

set_option maxRecDepth 100000 in
set_option maxHeartbeats 4000000 in
theorem put_any (l : List UInt8) (A : Option Addr) (n cap : Nat) (at' : List Int) (w : World) (hl : l.length ≤ 1000)
 (hz : Ints w A n at') (hcap : n ≤ cap) : Calls Tryz.prog 74 #[.string (str l), .slice A n cap] w (PutPost w l at') := by
 have hpg := fun w => blobPages_any l.length w (by omega)
 have hss := str_size l
 have hn : at'.length = n := hz.1
 obtain ⟨i0, hi, hz0, hz1, hz2⟩ := info_parts info_page
 by_cases h0 : n = 0
 · have hno : ¬ PutOk l at' := fun h => h.1 (by omega)
   have d0 : ((n : Int) == 0) = true := by simp; omega
   have Hno := Lib.hid hno
   clear hno hpg hz
   generalize str l = s at hss ⊢
   subst h0
   go_enter Tryz.func74, Tryz.ntmps74
   go_wp2
   go_ret2
   exact .inr ⟨Hno.out, rfl, Below.refl _ _⟩
 · have d0 : ((n : Int) == 0) = false := by simp; omega
   by_cases h1 : n = pgN l.length
   · have d1 : ((n : Int) != (pgN l.length : Int)) = false := by simp; omega
     have hn2 : n ≤ 2 := by have := pgN_le l.length; omega
     have H1 := Lib.hid h1
     have H0 := Lib.hid h0
     obtain ⟨P, hP⟩ : ∃ P, P = pgN l.length := ⟨_, rfl⟩
     rw [← hP] at d1 hpg
     have HP := Lib.hid hP
     obtain ⟨b, off, rfl, hbl, hcell⟩ := hz.2.2 (by omega)
     have Hcell := Lib.hid hcell
     have Hn := Lib.hid hn
     clear hP h1 h0 hz hcell hn
     obtain ⟨s, hs⟩ : ∃ s, s = str l := ⟨_, rfl⟩
     rw [← hs] at hss ⊢
     have Hs := Lib.hid hs
     clear hs
     go_enter Tryz.func74, Tryz.ntmps74
     go_wp2_with fail
     refine (hpg _).mono ?_
     rintro e w1 ⟨rfl, rfl⟩
     clear hpg
     go_wp2_with fail
     go_loopw [0, 6, 24] (fun v o i wr => ∃ (j : Nat) (sv : ByteArray), i = .int .i64 j ∧ j ≤ n ∧ v = .string sv ∧ Hid (sv = str (l.drop (200 * j))) ∧ wr.ownsRow w1.heap.size 113 4 o j (rows l at' j) ∧ Below w1.heap.size w1 wr ∧ Hid (∀ i, i < j → OkAt at' i)) (fun _ _ i _ => n - (intOf i).toNat)
     case atStart => exact ⟨0, s, rfl, Nat.zero_le _, rfl, Hs, ⟨rfl, .inl ⟨rfl, rfl⟩⟩, Below.refl _ _, Lib.hid (fun i hi => absurd hi (by omega))⟩
     case round =>
      obtain ⟨j, sv, rfl, hj, rfl, hsv, hown, hbel, hoks⟩ := hrel
      by_cases hlt : j < n
      · have hx := (hbel.cell (p := ⟨b, off + j, none⟩) hbl).trans (Hcell.out j hlt)
        obtain ⟨g, hg⟩ : ∃ g, g = at'.getD j 0 := ⟨_, rfl⟩
        rw [← hg] at hx
        have Hg := Lib.hid hg
        clear hg
        have hcon := fun W (hW : Below w1.heap.size w1 W) => Tryz.slices_Contains_int b off j cap at' g W (by have := Hn.out; omega) (by omega) (fun i hi => (hW.cell (p := ⟨b, off + i, none⟩) hbl).trans (Hcell.out i (by have := Hn.out; omega)))
        by_cases h2 : g < 2
        · have d2 : decide (g < 2) = true := by simpa using h2
          clear hcon
          have hno : ¬ PutOk l at' := fun h => by have := (h.2.2 j (by have := Hn.out; omega)).1; rw [← Hg.out] at this; omega
          have Hno := Lib.hid hno
          clear hno
          go_wp2
          go_ret2
          exact .inr ⟨Hno.out, rfl, hbel⟩
        · have d2 : decide (g < 2) = false := by simpa using h2
          by_cases h64 : 64 ≤ g
          · have d64 : decide (64 ≤ g) = true := by simpa using h64
            clear hcon
            have hno : ¬ PutOk l at' := fun h => by have := (h.2.2 j (by have := Hn.out; omega)).2.1; rw [← Hg.out] at this; omega
            have Hno := Lib.hid hno
            clear hno
            go_wp2
            go_ret2
            exact .inr ⟨Hno.out, rfl, hbel⟩
          · have d64 : decide (64 ≤ g) = false := by simpa using h64
            rcases hct : (at'.take j).contains g with _ | _
            · rw [hct] at hcon
              have hokj : OkAt at' j := ⟨by rw [← Hg.out]; omega, by rw [← Hg.out]; omega, by rw [← Hg.out]; exact hct⟩
              have Hokj := Lib.hid hokj
              clear hokj hct
              have hem := fun w => empty_any 5 0 w
              obtain ⟨Z, hZ⟩ : ∃ Z, Z = str (zs 240) := ⟨_, rfl⟩
              have hZs : Z.size = 240 := by rw [hZ, str_size]; exact List.length_replicate
              rw [← hZ] at hem
              have HZ := Lib.hid hZ
              obtain ⟨c, hc⟩ : ∃ c, c = min sv.size 200 := ⟨_, rfl⟩
              have hmin : min (sv.size : Int) 200 = (c : Int) := by omega
              have hc1 : min c sv.size = c := by omega
              have hc2 : c ≤ sv.size := by omega
              have hc3 : (c : Int) ≤ (sv.size : Int) := by omega
              have hc4 : c ≤ 200 := by omega
              have Hc := Lib.hid hc
              clear hZ hc
              have hjn : (j : Int) ≤ (n : Int) := by omega
              go_wp2_with fail
              refine (hcon _ hbel).mono ?_
              rintro e w2 ⟨rfl, rfl⟩
              clear hcon
              go_wp2_with fail
              refine (hem _).mono ?_
              rintro e w3 ⟨rfl, hb3⟩
              have hbw3 := below_tr hbel hb3
              have hown3 := own_below hown hb3
              clear hem hb3 hown hbel hx
              by_cases hnx : j + 1 < n
              · have dn : decide ((j : Int) + 1 < (n : Int)) = true := by simp; omega
                have hxn := (hbw3.cell (p := ⟨b, off + (j + 1), none⟩) hbl).trans (Hcell.out (j + 1) hnx)
                have hbl3 : b < w3.heap.size := Nat.lt_of_lt_of_le hbl hbw3.size
                generalize hgn : at'.getD (j + 1) 0 = gn at hxn
                have hnext : nextOf at' j = gn := by unfold nextOf; rw [if_pos (by have := Hn.out; omega), hgn]
                have Hnext := Lib.hid hnext
                clear hgn hnext
                have hbody : sv.extract 0 c ++ Z.extract c 240 = str (body l j) := body_code hsv.out HZ.out Hc.out
                have hrest : sv.extract c sv.size = str (l.drop (200 * (j + 1))) := rest_code hsv.out Hc.out
                generalize hT : sv.extract 0 c ++ Z.extract c 240 = T at hbody
                have HB := Lib.hid hbody
                have HR := Lib.hid hrest
                clear hbody hrest
                go_wp2_with (at_builtin; refine wpList_append_own _ rfl (.tmp 71) (.tmp 73) _ rfl w1.heap.size 113 i0 (.agg #[.int .i64 0, .int .i64 0, .int .i64 0, .string ⟨#[]⟩]) 4 40 Tryz.underlying68 hi hz0 hz1 hz2 rfl (by decide) _ j (rows l at' j) rfl ((hown3.alloc _).alloc _) ⟨w3.heap.size + 1, 0, none⟩ 1 1 [.int .i64 5, .int .i64 0, .int .i64 gn, .string T] rfl rfl (cells_new _ _ (by simp) _ _) (by intro u hu; simp at hu; rcases hu with rfl | rfl | rfl | rfl <;> rfl) (by unfold maxLen; omega) (by omega) (by have := hbw3.size; simp; omega) ?_; intro v' w4 hown4 hgrow _)
                go_roundw
                case rel =>
                 refine ⟨j + 1, _, by go_num, by omega, rfl, HR, ?_, ?_, Lib.hid (fun i hi => ?_)⟩
                 · rw [rows, pgRow, ← HB.out, Hnext.out]
                   exact hown4
                 · exact below_grown (below_al (below_al hbw3 _) _) (by have := hbw3.size; simp; omega) hown3 hgrow
                 · rcases Nat.lt_or_eq_of_le (Nat.le_of_lt_succ hi) with h | h
                   · exact hoks.out i h
                   · rw [h]; exact Hokj.out
                case measure => simp [intOf]; omega
              · have dn : decide ((j : Int) + 1 < (n : Int)) = false := by simp; omega
                have hnext : nextOf at' j = 0 := by unfold nextOf; rw [if_neg (by have := Hn.out; omega)]
                have Hnext := Lib.hid hnext
                clear hnext
                have hbody : sv.extract 0 c ++ Z.extract c 240 = str (body l j) := body_code hsv.out HZ.out Hc.out
                have hrest : sv.extract c sv.size = str (l.drop (200 * (j + 1))) := rest_code hsv.out Hc.out
                generalize hT : sv.extract 0 c ++ Z.extract c 240 = T at hbody
                have HB := Lib.hid hbody
                have HR := Lib.hid hrest
                clear hbody hrest
                go_wp2_with (at_builtin; refine wpList_append_own _ rfl (.tmp 71) (.tmp 73) _ rfl w1.heap.size 113 i0 (.agg #[.int .i64 0, .int .i64 0, .int .i64 0, .string ⟨#[]⟩]) 4 40 Tryz.underlying68 hi hz0 hz1 hz2 rfl (by decide) _ j (rows l at' j) rfl ((hown3.alloc _).alloc _) ⟨w3.heap.size + 1, 0, none⟩ 1 1 [.int .i64 5, .int .i64 0, .int .i64 0, .string T] rfl rfl (cells_new _ _ (by simp) _ _) (by intro u hu; simp at hu; rcases hu with rfl | rfl | rfl | rfl <;> rfl) (by unfold maxLen; omega) (by omega) (by have := hbw3.size; simp; omega) ?_; intro v' w4 hown4 hgrow _)
                go_roundw
                case rel =>
                 refine ⟨j + 1, _, by go_num, by omega, rfl, HR, ?_, ?_, Lib.hid (fun i hi => ?_)⟩
                 · rw [rows, pgRow, ← HB.out, Hnext.out]
                   exact hown4
                 · exact below_grown (below_al (below_al hbw3 _) _) (by have := hbw3.size; simp; omega) hown3 hgrow
                 · rcases Nat.lt_or_eq_of_le (Nat.le_of_lt_succ hi) with h | h
                   · exact hoks.out i h
                   · rw [h]; exact Hokj.out
                case measure => simp [intOf]; omega
            · rw [hct] at hcon
              have hno : ¬ PutOk l at' := fun h => by have := (h.2.2 j (by have := Hn.out; omega)).2.2; rw [← Hg.out, hct] at this; exact absurd this (by decide)
              have Hno := Lib.hid hno
              have hjn : (j : Int) ≤ (n : Int) := by omega
              clear hno hct
              go_wp2_with fail
              refine (hcon _ hbel).mono ?_
              rintro e w2 ⟨rfl, rfl⟩
              clear hcon
              go_wp2
              go_ret2
              exact .inr ⟨Hno.out, rfl, hbel⟩
      · obtain rfl : j = n := by omega
        have hok : PutOk l at' := ⟨by have := Hn.out; have := H0.out; omega, by have := Hn.out; have := H1.out; omega, fun i hi => hoks.out i (by have := Hn.out; omega)⟩
        have Hok := Lib.hid hok
        clear hok
        go_wp2
        go_ret2
        exact .inl ⟨Hok.out, _, rfl, by rw [Hn.out]; exact hown, hbel⟩
   · have hno : ¬ PutOk l at' := fun h => h1 (by have := h.2.1; omega)
     have d1 : ((n : Int) != (pgN l.length : Int)) = true := by simp; omega
     have Hno := Lib.hid hno
     have Hd := Lib.hid h1
     obtain ⟨P, hP⟩ : ∃ P, P = pgN l.length := ⟨_, rfl⟩
     rw [← hP] at d1 hpg
     clear hno hz hP h1
     generalize str l = s at hss ⊢
     go_enter Tryz.func74, Tryz.ntmps74
     go_wp2_with fail
     refine (hpg _).mono ?_
     rintro e w1 ⟨rfl, rfl⟩
     clear hpg
     go_wp2
     go_ret2
     exact .inr ⟨Hno.out, rfl, Below.refl _ _⟩
end Go.Proofs.YtijhamllnnilbaaGreatDoor.Bl
