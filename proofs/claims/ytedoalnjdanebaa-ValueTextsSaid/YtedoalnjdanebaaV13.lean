/- The laws of chapter 1, walked: CodecOne. Conditions: none. -/
import Derived.Test.YtedoalnjdanebaaP1
set_option maxRecDepth 20000
set_option linter.unusedVariables false
set_option linter.unusedSimpArgs false
namespace Go.RV
open Go Go.Proofs

section
variable {M : List Nat} {w0 w w' : World} {A B C D R L : LM}
theorem perm2 : (C ++ (A ++ (B ++ R))).Perm (A ++ (B ++ (C ++ R))) := by
  refine (List.perm_append_comm_assoc C A (B ++ R)).trans (List.Perm.append_left A ?_)
  exact List.perm_append_comm_assoc C B R
theorem perm3 : (D ++ (A ++ (B ++ (C ++ R)))).Perm (A ++ (B ++ (C ++ (D ++ R)))) := by
  refine (List.perm_append_comm_assoc D A _).trans (List.Perm.append_left A ?_)
  exact perm2
theorem Sf.rot2 (h : Sf M w0 w (A ++ (B ++ (C ++ R))) L) : Sf M w0 w (C ++ (A ++ (B ++ R))) L := ⟨h.st.perm (List.Perm.append_right L perm2)⟩
theorem Sf.rot3 (h : Sf M w0 w (A ++ (B ++ (C ++ (D ++ R)))) L) : Sf M w0 w (D ++ (A ++ (B ++ (C ++ R)))) L := ⟨h.st.perm (List.Perm.append_right L perm3)⟩
end
theorem bytesE {bw : Nat} {bs : List UInt8} {L : LM} (hW : Wr bw bs L) {w : World} (hS : St (keys L) w w L) :
    Fc Try.prog 40 [.pointer (some ⟨bw, 0, none⟩)] w fun v w' => ∃ s, v = .string s ∧ s = strY bs ∧ St [] w w' [] :=
  Fc.mono (bytes_c bw bs L hW w hS) fun v w' h => ⟨_, h.1, rfl, h.2⟩

end Go.RV
