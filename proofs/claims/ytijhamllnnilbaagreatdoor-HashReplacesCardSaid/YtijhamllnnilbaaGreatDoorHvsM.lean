/- The table with its values' pages: what Get, Store, Set, Blobs, Give, Check tell. -/
import Derived.Test.YtijhamllnnilbaaGreatDoorHvtM
import Derived.Test.YtijhamllnnilbaaGreatDoorHcutBM
namespace Go.Proofs.YtijhamllnnilbaaGreatDoor.Ha
open Go.RowKit Go.Proofs.YtijhamllnnilbaaGreatDoor.Mem Go.Proofs.YtijhamllnnilbaaGreatDoor.Pg Go.Proofs.YtijhamllnnilbaaGreatDoor.Kp Go.Proofs.YtijhamllnnilbaaGreatDoor.Sp Go.Proofs.YtijhamllnnilbaaGreatDoor.Gr
set_option linter.unusedSimpArgs false
set_option linter.unusedVariables false
def pgV (v : List UInt8) : Nat := if v.length ≤ 40 then 0 else Bl.pgN v.length
theorem pgV_le (v : List UInt8) : pgV v ≤ 2 := by unfold pgV; split; omega; exact Bl.pgN_le _
theorem BlobAt.len {n : Nat} {pg : Nat → Pag} {x : Cel} {v : List UInt8} {l : List Nat} (h : BlobAt n pg x v l) (hx : x.ok) : l.length = pgV v := by
 unfold pgV
 rcases h with ⟨h1, h2, h3⟩ | ⟨h1, _, _, h4, _⟩
 · have h5 := hx.rest
   rcases h5 with ⟨_, h6, _⟩ | ⟨h6, _⟩
   · rw [h3, h2, if_pos h6]; rfl
   · omega
 · rw [if_neg (by omega)]; exact h4
section
variable {w0 w : World} {gb mb sb qb c n D : Nat} {pg : Nat → Pag} {t : Tri} {ml : List UInt8} {X R : List Nat} {tk0 : Int} {F : Mp} {pl : Cel → List Nat}
theorem give_ok (h : St w0 w gb mb sb qb c n pg D t ml X tk0) {y : Nat} (hy : y ∈ X) (hk : -900000 ≤ tk0 ∧ tk0 ≤ 900000) :
 Calls Tryz.prog 28 #[.pointer (some ⟨gb, 0, none⟩), .int .i64 y] w fun e w' => e = .returned (.int .i64 0) ∧ (∃ pg' ml', St w0 w' gb mb sb qb c n pg' D t ml' (X.erase y) (tk0 - 1) ∧ SameX X pg pg') ∧ Wk w0.heap.size gb mb w w' := by
 obtain ⟨md, mx, hmap⟩ := h.hs.map
 obtain ⟨hb, hH⟩ := h.hs.give hy hmap
 have h2 := h.hs.xr y hy
 have hL := numsF_len h.hs
 refine (h.gv.giveW hmap h.hs.is (by omega) y h2.1 h2.2 hb).mono ?_
 rintro e w' ⟨rfl, hg, hw⟩
 refine ⟨rfl, ⟨_, _, ⟨?_, hH⟩, (SameX.refl _ _).upd (h.hs.notX (by omega)) _⟩, hw⟩
 have e : tk0 - 1 + ((numsF t.leaves).length : Int) = tk0 + ((numsF t.leaves).length : Int) - 1 := by omega
 rw [e]
 exact hg
def StoreAll (w0 w : World) (gb mb sb qb c n : Nat) (pg : Nat → Pag) (D : Nat) (t : Tri) (X : List Nat) (tk0 : Int) (key val : List UInt8) (e : Ending) (w' : World) : Prop :=
 (∃ (x : Cel) (l : List Nat) (B : Option Addr) (cc : Nat) (pg' : Nat → Pag) (ml' : List UInt8), e = .returned (.tuple #[x.v, .slice B l.length cc, .int .i64 0]) ∧ x.key = key ∧ x.ok ∧ BlobAt n pg' x val l ∧
  w'.ownsRow w.heap.size 3 1 (.slice B l.length cc) l.length (natV l) ∧ St w0 w' gb mb sb qb c n pg' D t ml' (X ++ l) (tk0 + l.length) ∧ SameX X pg pg') ∨
 (e = .returned (.tuple #[zcV, .slice none 0 0, .int .i64 6]) ∧ (numsF t.leaves).length + X.length + 2 + pgV val > n)
theorem store_all (h : St w0 w gb mb sb qb c n pg D t ml X tk0) (key val : List UInt8) (hk : keyOk key) (hv : val.length ≤ 400) (htk : -900000 ≤ tk0 ∧ tk0 ≤ 900000) :
 Calls Tryz.prog 24 #[.pointer (some ⟨gb, 0, none⟩), .string (str key), .string (str val)] w fun e w' => StoreAll w0 w gb mb sb qb c n pg D t X tk0 key val e w' ∧ Wk w0.heap.size gb mb w w' := by
 by_cases h40 : val.length ≤ 40
 · refine (store_inline w gb key val hk h40).mono ?_
   rintro e w' ⟨rfl, hb⟩
   refine ⟨.inl ⟨⟨key, val, 0, 0⟩, [], none, 0, pg, ml, rfl, rfl, (Cel.ok_iff _).2 ⟨hk, .inl ⟨rfl, h40, rfl⟩⟩, .inl ⟨rfl, rfl, rfl⟩, ⟨rfl, .inl ⟨rfl, rfl⟩⟩, ?_, .refl _ _⟩, .of_below hb⟩
   rw [List.append_nil]
   have e : tk0 + ((([] : List Nat).length : Nat) : Int) = tk0 := by simp
   rw [e]
   exact h.below hb
 · refine (store_blob w0 w gb mb sb qb c n D pg t ml X tk0 key val h hk ⟨by omega, hv⟩ htk).mono ?_
   rintro e w' ⟨hp, hw⟩
   rcases hp with ⟨l, B, cc, pg', ml', rfl, hl, hown, hbl, hst, hsx⟩ | ⟨rfl, l, pg', ml', hst, hl, htk'⟩
   · have hpg := Bl.pgN_le val.length
     have hb0 : (l.getD 0 0) ∈ l := by
      have hpos : 0 < l.length := by rw [hl]; unfold Bl.pgN; split <;> omega
      rw [List.getD_eq_getElem?_getD, List.getElem?_eq_getElem hpos]
      exact List.getElem_mem hpos
     have hr2 := hst.hs.xr _ (List.mem_append_right X hb0)
     have h64 := hst.gv.n64
     exact ⟨.inl ⟨_, l, B, cc, pg', ml', rfl, rfl, (Cel.ok_iff _).2 ⟨hk, .inr ⟨hr2.1, by show l.getD 0 0 < 64; omega, rfl, by show 40 < val.length; omega, hv⟩⟩, hbl, hown, hst, hsx⟩, hw⟩
   · have h1 := (take_free hst.hs).1 htk'
     rw [List.length_append] at h1
     refine ⟨.inr ⟨rfl, ?_⟩, hw⟩
     unfold pgV
     rw [if_neg h40]
     omega
theorem Vt.stored {pg' : Nat → Pag} (V : Vt n pg t X R F pl) (l : List Nat) (h : SameX X pg pg') : Vt n pg' t (X ++ l) (R ++ l) F pl := (V.frame h).take l
theorem check_vt (h : St w0 w gb mb sb qb c n pg D t ml X tk0) (V : Vt n pg t X [] F pl) :
 Calls Tryz.prog 21 #[.pointer (some ⟨gb, 0, none⟩), .int .i64 n, .slice none 0 0] w fun e w' => e = .returned (.int .i64 0) ∧ St w0 w' gb mb sb qb c n pg D t ml X tk0 ∧ Below w.heap.size w w' := by
 have hc := check_ok w0 w gb mb sb qb c n D pg _ t ml X h.gv h.hs (vlF F) pl V.vals [] [] none 0 (ints_none w 0) (fun b off e => by cases e) V.usedE
 rw [if_pos rfl] at hc
 exact hc.mono fun e w' ⟨h1, h2, h3⟩ => ⟨h1, ⟨h2, h.hs⟩, h3⟩
theorem get_vt (h : St w0 w gb mb sb qb c n pg D t ml X tk0) (V : Vt n pg t X R F pl) (k : List UInt8) (hk : keyOk k) :
 Calls Tryz.prog 25 #[.pointer (some ⟨gb, 0, none⟩), .string (str k)] w fun e w' => ((e = .returned (.tuple #[zcV, .int .i64 3]) ∧ F k = none ∧ lookT t k = none) ∨ (∃ x v, e = .returned (.tuple #[x.v, .int .i64 0]) ∧ F k = some v ∧ lookT t k = some x ∧ x.key = k ∧ x.ok ∧ x ∈ cellsT t ∧ BlobAt n pg x v (pl x))) ∧ St w0 w' gb mb sb qb c n pg D t ml X tk0 ∧ Below w.heap.size w w' := by
 have h1 := get_ok w0 w gb mb sb qb c n D pg _ t k h.gv h.hs.tb
 rw [if_pos hk] at h1
 refine h1.mono ?_
 rintro e w' ⟨rfl, hg, hr⟩
 refine ⟨?_, ⟨hg, h.hs⟩, hr.bel⟩
 rcases V.look h.hs.tb k with ⟨e1, e2⟩ | ⟨x, v, e1, e2, e3, e4, e5, e6⟩
 · exact .inl ⟨getRes_no e1, e2, e1⟩
 · exact .inr ⟨x, v, getRes_yes e1, e3, e1, e2, e5, e4, e6⟩
end
end Go.Proofs.YtijhamllnnilbaaGreatDoor.Ha
