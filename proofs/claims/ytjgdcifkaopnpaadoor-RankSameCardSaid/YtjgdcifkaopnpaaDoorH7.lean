/- Contracts of functions of chapter 6: the document's Check, Has, Less, In, Dots, Next; equality of siblings. Conditions: none. -/
import Derived.Test.YtjgdcifkaopnpaaDoorH6
set_option maxRecDepth 20000
set_option linter.unusedVariables false
set_option linter.unusedSimpArgs false
namespace Go.RV
open Go Go.Proofs

section
variable {P : Program} {d : Nat} {xs ys us vs : Array Value} {f : Field} {fs : List Field} {r s : Bool} {w : World}
theorem part_agg {t sz o : Nat} (hu : (∃ fs, P.underlying t = some (.struct fs)) ∨ ∃ n e, P.underlying t = some (.array n e)) (hz : (sizeOf t).run P w = .ok sz w) : (part t xs o).run P w = .ok (.agg (xs.extract o (o + sz))) w := by
  unfold part
  rw [Sem.run_bind]
  have ha : (isAgg t).run P w = .ok true w := by
    unfold isAgg
    rw [Sem.run_bind]
    rcases hu with ⟨fs, hu⟩ | ⟨n, e, hu⟩ <;> rw [run_underlying hu] <;> rfl
  rw [ha]
  simp only [Result.andThen_ok, if_true, Sem.run_bind, hz]
  rfl
/-- a field that is a struct -/
theorem eqF_consS (hn : (f.name == "_") = false) (ha : (part f.type xs f.offset).run P w = .ok (.agg us) w) (hb : (part f.type ys f.offset).run P w = .ok (.agg vs) w) (he : (Op.equalIn d f.type (.agg us) (.agg vs)).run P w = .ok r w) (hr : (Op.eqFields d xs ys fs).run P w = .ok s w) : (Op.eqFields d xs ys (f :: fs)).run P w = .ok (r && s) w := by
  have hn' : f.name ≠ "_" := by simpa using hn
  rw [Op.eqFields]
  simp only [if_pos hn', Sem.run_bind, ha, hb, he, Result.andThen_ok]
  cases r
  · simp
  · simpa using hr
end
theorem toList_strY (a b : List UInt8) : ((strY a).toList == (strY b).toList) = decide (a = b) := by
  rw [ByteArray.toList_eq, ByteArray.toList_eq]
  show ((⟨a.toArray⟩ : ByteArray).data.toList == (⟨b.toArray⟩ : ByteArray).data.toList) = _
  rw [Bool.eq_iff_iff]
  simp
def eqX (x y : Sx) : Bool := eqD x.r x.n y.r y.n && (decide (x.v = y.v) && true)
theorem eqX_iff (x y : Sx) : eqX x y = true ↔ x = y := by
  unfold eqX
  rw [Bool.and_eq_true, eqD_iff]
  cases x; cases y
  simp [and_assoc]
theorem eqDotIn (r n r2 n2 : Int) (w : World) (d : Nat) : (Op.equalIn (d + 2) 42 (.agg #[.int .u8 r, .int .u32 n]) (.agg #[.int .u8 r2, .int .u32 n2])).run Tryd.prog w = .ok (eqD r n r2 n2) w := by
  rw [run_equalIn_struct w (d + 1) 42 _ _ fieldsDot (by kernel_rfl)]
  simp only [Program.fieldsOf, Tryd.underlying42]
  exact eqF_cons (d := d) rfl rfl rfl (.int Tryd.underlying5) (eqF_cons rfl rfl rfl (.int Tryd.underlying22) eqF_nil)
theorem eqSibF (x y : Sx) (w : World) : (Op.eqFields 9999 (encX x).toArray (encX y).toArray (Tryd.prog.fieldsOf 44).toList).run Tryd.prog w = .ok (eqX x y) w := by
  simp only [Program.fieldsOf, Tryd.underlying44]
  refine eqF_consS (us := #[.int .u8 x.r, .int .u32 x.n]) (vs := #[.int .u8 y.r, .int .u32 y.n]) rfl ?_ ?_ (eqDotIn _ _ _ _ w 9997) ?_
  · exact part_agg (.inl ⟨_, Tryd.underlying42⟩) (Tryd.sizeOf42 w)
  · exact part_agg (.inl ⟨_, Tryd.underlying42⟩) (Tryd.sizeOf42 w)
  · rw [← toList_strY]
    exact eqF_cons (d := 9998) rfl rfl rfl (.string Tryd.underlying9) eqF_nil
theorem fieldsSib : Tryd.prog.underlying 44 = some (.struct (Tryd.prog.fieldsOf 44)) := by
  unfold Program.fieldsOf
  rw [Tryd.underlying44]
theorem neSib (x y : Sx) {ox oy : Operand} {w : World} {K : Value → World → Prop} (k : K (.bool (!eqX x y)) w) :
    SemN Tryd.prog (do eqGuard .neq 44 ox oy (.agg (encX x).toArray) (.agg (encX y).toArray); binOp .neq 44 (.agg (encX x).toArray) (.agg (encX y).toArray)) w K :=
  neS_i (by kernel_rfl) fieldsSib (by kernel_rfl) (eqSibF x y w) k

theorem ne8u (f g : Nat → Int) {ox oy : Operand} {w : World} {K : Value → World → Prop} (k : K (.bool (!veq f g)) w) :
    SemN Tryd.prog (do eqGuard .neq 23 ox oy (.agg (vecF f).toArray) (.agg (vecF g).toArray); binOp .neq 23 (.agg (vecF f).toArray) (.agg (vecF g).toArray)) w K :=
  neV_i (by kernel_rfl) Tryd.underlying23 inf22 Tryd.underlying22 (by kernel_rfl) k

def lessD (r n r2 n2 : Int) : Bool := decide (n < n2) || (n == n2 && decide (r < r2))
theorem eqD_comm (a b c d : Int) : eqD a b c d = eqD c d a b := by
  unfold eqD
  rw [Bool.eq_iff_iff]
  simp
  constructor <;> (rintro ⟨rfl, rfl⟩; exact ⟨rfl, rfl⟩)
theorem encD_one (d : Int × Int) : ∀ y ∈ encD d, one y = true := by
  intro y hy
  simp [encD] at hy
  rcases hy with rfl | rfl <;> rfl
theorem dots_in (xs : List Sx) (r n : Int) : dotIn (xs.map key) r n = inX xs r n := by
  unfold dotIn inX
  rw [List.any_map]
  congr 1
  funext x
  exact eqD_comm _ _ _ _
def rnextV (f : Nat → Int) (r : Int) : Nat → Int := if nextE f r = 0 then nextV f r else f
end Go.RV
