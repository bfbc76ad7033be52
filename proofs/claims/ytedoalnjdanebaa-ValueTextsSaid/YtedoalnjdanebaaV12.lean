/- Contracts of functions of chapter 1: few, reads, awake; CodecWrites walked. Conditions: none. -/
import Derived.Test.YtedoalnjdanebaaV11
set_option maxRecDepth 20000
set_option linter.unusedVariables false
set_option linter.unusedSimpArgs false
namespace Go.RV
open Go Go.Proofs

theorem Wr.new (b : Nat) : Wr b [] [(b, .cells #[.slice none 0 0] 71 (0, 0))] := ⟨_, [], rfl, .nil⟩
theorem lit_eq {bs : List UInt8} (l : List UInt8) (h : bs = l) : streq (strY bs) (strY l) = true := by rw [streq_strY, h]; simp
theorem bytesK {bw : Nat} {bs : List UInt8} {L : LM} (a : ByteArray) (e : streq (strY bs) a = true) (hW : Wr bw bs L) {w : World} (hS : St (keys L) w w L) :
    Fc Try.prog 40 [.pointer (some ⟨bw, 0, none⟩)] w fun v w' => ∃ s, v = .string s ∧ streq s a = true ∧ St [] w w' [] :=
  Fc.mono (bytes_c bw bs L hW w hS) fun v w' h => ⟨_, h.1, e, h.2⟩

theorem itmD_len (x : Itm) (hs : x.s.length ≤ 300) : (itmD x).length ≤ 306 := by
  have h1 := varD_len x.n
  have h2 := varD_len (x.s.length : Int)
  unfold itmD
  repeat' split
  all_goals first | (rw [be_len]; omega) | omega | (simp only [textD, List.length_append]; omega)
def itmsD (l : List Itm) : List UInt8 := l.flatMap itmD
theorem itmsD_len : ∀ (l : List Itm), (∀ x ∈ l, x.s.length ≤ 300) → (itmsD l).length ≤ 306 * l.length
  | [], _ => by simp [itmsD]
  | x :: l, h => by
    have h1 := itmD_len x (h x (by simp))
    have h2 := itmsD_len l (fun y hy => h y (by simp [hy]))
    have e : itmsD (x :: l) = itmD x ++ itmsD l := by simp [itmsD]
    rw [e, List.length_append, List.length_cons]
    omega
theorem itmsD_snoc (l : List Itm) {i : Nat} (h : i < l.length) : itmsD (l.take (i + 1)) = itmsD (l.take i) ++ itmD l[i] := by
  unfold itmsD
  rw [List.take_succ_eq_append_getElem h, List.flatMap_append]
  simp

end Go.RV
