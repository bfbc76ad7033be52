/- Bytes: conversions between strings and slices of bytes. Conditions: none. -/
import Derived.Test.YtedoalnjdanebaaRvO
import Derived.Laws.IdiomStrings
import Derived.Laws.BytesArg
import Derived.Lib.ConvBytes
set_option linter.unusedVariables false
set_option linter.unusedSimpArgs false
namespace Go.RV
open Go Go.RowKit

def encY (y : UInt8) : List Value := [.int .u8 (y.toNat : Int)]
theorem encY_len (y : UInt8) : (encY y).length = 1 := rfl
def strY (bs : List UInt8) : ByteArray := ⟨bs.toArray⟩
theorem strY_size (bs : List UInt8) : (strY bs).size = bs.length := by simp [strY, ByteArray.size]
theorem strY_append (as bs : List UInt8) : strY as ++ strY bs = strY (as ++ bs) := by
  apply ByteArray.ext
  simp [strY]
theorem strY_of (s : ByteArray) : strY s.data.toList = s := by
  apply ByteArray.ext
  simp [strY]
theorem strY_inj {as bs : List UInt8} : strY as = strY bs ↔ as = bs := by
  constructor
  · intro h
    have := congrArg (fun s => s.data.toList) h
    simpa [strY] using this
  · rintro rfl; rfl
theorem flatY_get {bs : List UInt8} {j : Nat} (hj : j < bs.length) : (flat encY bs)[j]? = some (.int .u8 (bs[j].toNat : Int)) := by
  have := flat_get encY_len bs j hj 0 (by omega)
  simpa [encY] using this

section
variable {P : Program} {w w0 : World} {M : List Nat} {F L : LM}

theorem bStr_i {src dst e n c : Nat} {A : Option Addr} {bs : List UInt8} {K : Value → World → Prop} (hs : P.underlying src = some (.slice e)) (he : P.underlying e = some (.int .u8)) (hd : P.underlying dst = some .string) (hR : Rd w A (flat encY bs)) (hn : n = bs.length) (k : K (.string (strY bs)) w) :
    SemN P (convert src dst (.slice A n c)) w K := by
  subst hn
  refine ⟨SemW.of_run (w' := w) (a := .string (strY bs)) ?_ k⟩
  rcases hR with h | ⟨b, off, rfl, h⟩
  · have hb : bs = [] := by
      cases bs with
      | nil => rfl
      | cons x xs => simp [flat, encY] at h
    subst hb
    cases A with
    | none => exact run_convert_bytes_nil w src e hs he _ _ dst hd
    | some a => exact run_convert_bytes_back w src dst e a c [] hs he hd (fun j hj => by simp at hj)
  · refine run_convert_bytes_back w src dst e _ c bs hs he hd fun j hj => ?_
    rw [add_none]
    exact h j _ (flatY_get hj)

/-- the row of a conversion: the bytes, then some zeros -/
structure RowY (C : Array Value) (bs : List UInt8) : Prop where
  get : ∀ j, (hj : j < bs.length) → C.toList[j]? = some (.int .u8 (bs[j].toNat : Int))
theorem RowY.rd {C : Array Value} {bs : List UInt8} (h : RowY C bs) {e : TypeId} {fz : Nat × Nat} {b : Nat} (hS : Sf M w0 w F ((b, .cells C e fz) :: L)) : Rd w (some ⟨b, 0, none⟩) (flat encY bs) := by
  refine .inr ⟨_, 0, rfl, fun j v hj => ?_⟩
  have hjl : j < bs.length := by
    have := (List.getElem?_eq_some_iff.1 hj).1
    rw [flat_length encY_len] at this
    simpa using this
  rw [flatY_get hjl] at hj
  rw [Nat.zero_add]
  exact hS.cell 0 rfl ((h.get j hjl).trans hj)

theorem sBytes_i {src dst e : Nat} {s : ByteArray} {K : Value → World → Prop} (hs : P.underlying src = some .string) (hd : P.underlying dst = some (.slice e)) (he : P.underlying e = some (.int .u8)) (hS : Sf M w0 w F L)
    (h : ∀ b cap C w', s.size ≤ cap → RowY C s.data.toList → Sf M w0 w' F ((b, .cells C e (C.size, C.size + 1)) :: L) → K (.slice (some ⟨b, 0, none⟩) s.size cap) w') : SemN P (convert src dst (.string s)) w K := by
  refine ⟨SemW.of_run (run_bytes_of_string w src dst e s hs hd he) ?_⟩
  have h1 : Nw w.drew (.cells (bytesRow s (grownCap w s.size 0 e)) e ((bytesRow s (grownCap w s.size 0 e)).size, (bytesRow s (grownCap w s.size 0 e)).size + 1)) fun b w' => K (.slice (some ⟨b, 0, none⟩) s.size (grownCap w s.size 0 e)) w' := by
    refine nw_f (hS.drew _) fun b w' hS' => h b _ _ w' (grownCap_ge w s.size 0 e) ⟨fun j hj => ?_⟩ hS'
    have hj2 : j < s.data.size := hj
    unfold bytesRow
    rw [Array.getElem?_toList, Array.getElem?_append_left (by rw [Array.size_map]; exact hj2), Array.getElem?_map, Array.getElem?_eq_getElem hj2]
    rfl
  exact h1.out
end
end Go.RV
