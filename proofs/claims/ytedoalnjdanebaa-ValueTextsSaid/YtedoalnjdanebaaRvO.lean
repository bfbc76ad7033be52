/- Two structs by value, compared: field by field. Conditions: none. -/
import Derived.Test.YtedoalnjdanebaaRvM
import Derived.Laws.StructEq
set_option linter.unusedVariables false
set_option linter.unusedSimpArgs false
namespace Go.RV
open Go Go.RowKit

section
variable {P : Program} {d : Nat} {xs ys : Array Value} {f : Field} {fs : List Field} {r s : Bool} {w : World} {t : TypeId}

theorem part_plain {v : Value} {o : Nat} (ht : ∃ u, P.underlying t = some u ∧ (∀ fs, u ≠ .struct fs) ∧ ∀ n e, u ≠ .array n e) (hv : xs[o]? = some v) : (part t xs o).run P w = .ok v w := by
  obtain ⟨u, hu, h1, h2⟩ := ht
  unfold part
  rw [Sem.run_bind]
  have ha : (isAgg t).run P w = .ok false w := by
    unfold isAgg
    rw [Sem.run_bind, run_underlying hu]
    cases u <;> simp_all
  rw [ha]
  simp [hv]

/-- what a field's two values answer -/
def EqF (P : Program) (t : TypeId) (a b : Value) (r : Bool) : Prop := ∀ d w, (Op.equalIn (d + 1) t a b).run P w = .ok r w ∧ ∃ u, P.underlying t = some u ∧ (∀ fs, u ≠ .struct fs) ∧ ∀ n e, u ≠ .array n e
theorem EqF.int {k k' : IntKind} {a b : Int} (h : P.underlying t = some (.int k')) : EqF P t (.int k a) (.int k b) (a == b) :=
  fun d w => ⟨run_equalIn_int w d t k k' a b h, _, h, by simp, by simp⟩
theorem EqF.bool {a b : Bool} (h : P.underlying t = some .bool) : EqF P t (.bool a) (.bool b) (a == b) :=
  fun d w => ⟨run_equalIn_bool' w d t a b h, _, h, by simp, by simp⟩
theorem EqF.string {a b : ByteArray} (h : P.underlying t = some .string) : EqF P t (.string a) (.string b) (a.toList == b.toList) :=
  fun d w => ⟨run_equalIn_string w d t a b h, _, h, by simp, by simp⟩

theorem eqF_nil : (Op.eqFields (d + 1) xs ys []).run P w = .ok true w := by simp [Op.eqFields]
theorem eqF_cons {a b : Value} (hn : (f.name == "_") = false) (ha : xs[f.offset]? = some a) (hb : ys[f.offset]? = some b) (he : EqF P f.type a b r) (hr : (Op.eqFields (d + 1) xs ys fs).run P w = .ok s w) : (Op.eqFields (d + 1) xs ys (f :: fs)).run P w = .ok (r && s) w := by
  have hn' : f.name ≠ "_" := by simpa using hn
  have h1 := he d w
  rw [Op.eqFields]
  simp only [if_pos hn', Sem.run_bind, part_plain h1.2 ha, part_plain h1.2 hb, h1.1, Result.andThen_ok]
  cases r
  · simp
  · simpa using hr

theorem eqS_i {fs : Array Field} {x y : Operand} {K : Value → World → Prop} (hm : P.eqGuardType P.depth t = false) (hu : P.underlying t = some (.struct fs)) (hp : P.stoodInHeld t = false) (h : (Op.eqFields 9999 xs ys fs.toList).run P w = .ok r w) (k : K (.bool r) w) :
    SemN P (do eqGuard .eql t x y (.agg xs) (.agg ys); binOp .eql t (.agg xs) (.agg ys)) w K := by
  refine ⟨SemW.of_run (a := .bool r) (w' := w) ?_ k⟩
  have hf : P.fieldsOf t = fs := by simp [Program.fieldsOf, hu]
  rw [Sem.run_bind, run_eqGuard_agg w .eql t x y xs ys hm, Result.andThen_ok, run_eql_struct, run_equalIn_struct w 9999 t xs ys (by rw [hf]; exact hu) hp, hf, h, Result.andThen_ok]
theorem neS_i {fs : Array Field} {x y : Operand} {K : Value → World → Prop} (hm : P.eqGuardType P.depth t = false) (hu : P.underlying t = some (.struct fs)) (hp : P.stoodInHeld t = false) (h : (Op.eqFields 9999 xs ys fs.toList).run P w = .ok r w) (k : K (.bool (!r)) w) :
    SemN P (do eqGuard .neq t x y (.agg xs) (.agg ys); binOp .neq t (.agg xs) (.agg ys)) w K := by
  refine ⟨SemW.of_run (a := .bool (!r)) (w' := w) ?_ k⟩
  have hf : P.fieldsOf t = fs := by simp [Program.fieldsOf, hu]
  rw [Sem.run_bind, run_eqGuard_agg w .neq t x y xs ys hm, Result.andThen_ok, run_neq_struct, run_equalIn_struct w 9999 t xs ys (by rw [hf]; exact hu) hp, hf, h, Result.andThen_ok]
end
end Go.RV
