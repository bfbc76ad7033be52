/- The laws of chapter 7, walked: ValueTexts. Conditions: none. -/
import Derived.Test.YtnhlpmnehdackaaGreatE4
import Derived.Test.YtnhlpmnehdackaaGreatD8
import Derived.Test.YtnhlpmnehdackaaGreatRvR
set_option maxRecDepth 20000
set_option linter.unusedVariables false
set_option linter.unusedSimpArgs false
namespace Go.RV
open Go Go.Proofs

section
variable {M : List Nat} {w0 w : World} {A B C F L : LM}
theorem Sf.cyc (h : Sf M w0 w (F ++ (A ++ (B ++ C))) L) : Sf M w0 w (A ++ (B ++ (C ++ F))) L := ⟨h.st.perm (List.Perm.append_right L (by
  have e : A ++ (B ++ (C ++ F)) = (A ++ (B ++ C)) ++ F := by simp
  rw [e]
  exact List.perm_append_comm))⟩
end
theorem perm4 {α : Type} (a b c d : α) : [a, b, c, d].Perm [c, a, d, b] := by
  classical
  rw [List.perm_iff_count]
  intro x
  simp only [List.count_cons, List.count_nil]
  omega
theorem takeV_len (s : RS) : (takeV (tellS s)).1.2.2.length ≤ 4 := by
  have hsz := tellR_sz _ (tellS_sz s)
  unfold takeV
  split
  · simp
  · split
    · simp
    · split
      · simp only [ridN_len]
        unfold countI
        split <;> omega
      · simp
theorem tl_self (s : List UInt8) : ((strY s).toList == (strY s).toList) = true := by simp
theorem conF (d : Bool) (s : List UInt8) (d2 : Bool) (s2 : List UInt8) (w : World) : (Op.eqFields 9999 #[.bool d, .string (strY s)] #[.bool d2, .string (strY s2)] (Tryz.prog.fieldsOf 65).toList).run Tryz.prog w = .ok ((d == d2) && (((strY s).toList == (strY s2).toList) && true)) w := by
  simp only [Program.fieldsOf, Tryz.underlying65]
  exact eqF_cons (d := 9998) rfl rfl rfl (.bool Tryz.underlying4) (eqF_cons rfl rfl rfl (.string Tryz.underlying9) eqF_nil)
theorem fieldsRCon : Tryz.prog.underlying 65 = some (.struct (Tryz.prog.fieldsOf 65)) := by
  unfold Program.fieldsOf
  rw [Tryz.underlying65]
theorem neRCon (d : Bool) (s : List UInt8) {ox oy : Operand} {w : World} {K : Value → World → Prop} (k : K (.bool false) w) :
    SemN Tryz.prog (do eqGuard .neq 65 ox oy (conV d s) (conV d s); binOp .neq 65 (conV d s) (conV d s)) w K :=
  neS_i (by kernel_rfl) fieldsRCon (by kernel_rfl) (conF d s d s w) (by rw [tl_self, show (d == d) = true from by cases d <;> rfl]; exact k)
def putVS (d : Bool) (n : Int) (xs : List Int) : ByteArray := if okVB d n xs then strY (valT d n xs) else ⟨#[]⟩
def putVE (d : Bool) (n : Int) (xs : List Int) : Int := if okVB d n xs then 0 else 4
def putCS (d : Bool) (s : List UInt8) : ByteArray := if okCB d s then strY (conT d s) else ⟨#[]⟩
def putCE (d : Bool) (s : List UInt8) : Int := if okCB d s then 0 else 4

end Go.RV
