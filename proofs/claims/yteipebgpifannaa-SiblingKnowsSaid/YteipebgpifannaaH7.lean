/- Contracts of functions of chapter 6: the document's Check, Has, Less, In, Dots, Next; equality of siblings. Conditions: none. -/
import Derived.Test.YteipebgpifannaaH6
set_option maxRecDepth 20000
set_option linter.unusedVariables false
set_option linter.unusedSimpArgs false
namespace Go.RV
open Go Go.Proofs

section
variable {P : Program} {d : Nat} {xs ys us vs : Array Value} {f : Field} {fs : List Field} {r s : Bool} {w : World}
theorem part_agg {t sz o : Nat} (hu : (∃ fs, P.underlying t = some (.struct fs)) ∨ ∃ n e, P.underlying t = some (.array n e)) (hz : (sizeOf t).run P w = .ok sz w) : (part t xs o).run P w = .ok (.agg (xs.extract o (o + sz))) w := by
  unfold part
  rw [Sem.run_bind]
  have ha : (isAgg t).run P w = .ok true w := by
    unfold isAgg
    rw [Sem.run_bind]
    rcases hu with ⟨fs, hu⟩ | ⟨n, e, hu⟩ <;> rw [run_underlying hu] <;> rfl
  rw [ha]
  simp only [Result.andThen_ok, if_true, Sem.run_bind, hz]
  rfl
/-- a field that is a struct -/
theorem eqF_consS (hn : (f.name == "_") = false) (ha : (part f.type xs f.offset).run P w = .ok (.agg us) w) (hb : (part f.type ys f.offset).run P w = .ok (.agg vs) w) (he : (Op.equalIn d f.type (.agg us) (.agg vs)).run P w = .ok r w) (hr : (Op.eqFields d xs ys fs).run P w = .ok s w) : (Op.eqFields d xs ys (f :: fs)).run P w = .ok (r && s) w := by
  have hn' : f.name ≠ "_" := by simpa using hn
  rw [Op.eqFields]
  simp only [if_pos hn', Sem.run_bind, ha, hb, he, Result.andThen_ok]
  cases r
  · simp
  · simpa using hr
end
theorem toList_strY (a b : List UInt8) : ((strY a).toList == (strY b).toList) = decide (a = b) := by
  rw [ByteArray.toList_eq, ByteArray.toList_eq]
  show ((⟨a.toArray⟩ : ByteArray).data.toList == (⟨b.toArray⟩ : ByteArray).data.toList) = _
  rw [Bool.eq_iff_iff]
  simp
def eqX (x y : Sx) : Bool := eqD x.r x.n y.r y.n && (decide (x.v = y.v) && true)
theorem eqX_iff (x y : Sx) : eqX x y = true ↔ x = y := by
  unfold eqX
  rw [Bool.and_eq_true, eqD_iff]
  cases x; cases y
  simp [and_assoc]
theorem eqDotIn (r n r2 n2 : Int) (w : World) (d : Nat) : (Op.equalIn (d + 2) 39 (.agg #[.int .u8 r, .int .u32 n]) (.agg #[.int .u8 r2, .int .u32 n2])).run Try.prog w = .ok (eqD r n r2 n2) w := by
  rw [run_equalIn_struct w (d + 1) 39 _ _ fieldsDot (by kernel_rfl)]
  simp only [Program.fieldsOf, Try.underlying39]
  exact eqF_cons (d := d) rfl rfl rfl (.int Try.underlying5) (eqF_cons rfl rfl rfl (.int Try.underlying22) eqF_nil)
theorem eqSibF (x y : Sx) (w : World) : (Op.eqFields 9999 (encX x).toArray (encX y).toArray (Try.prog.fieldsOf 75).toList).run Try.prog w = .ok (eqX x y) w := by
  simp only [Program.fieldsOf, Try.underlying75]
  refine eqF_consS (us := #[.int .u8 x.r, .int .u32 x.n]) (vs := #[.int .u8 y.r, .int .u32 y.n]) rfl ?_ ?_ (eqDotIn _ _ _ _ w 9997) ?_
  · exact part_agg (.inl ⟨_, Try.underlying39⟩) (Try.sizeOf39 w)
  · exact part_agg (.inl ⟨_, Try.underlying39⟩) (Try.sizeOf39 w)
  · rw [← toList_strY]
    exact eqF_cons (d := 9998) rfl rfl rfl (.string Try.underlying9) eqF_nil
theorem fieldsSib : Try.prog.underlying 75 = some (.struct (Try.prog.fieldsOf 75)) := by
  unfold Program.fieldsOf
  rw [Try.underlying75]
theorem neSib (x y : Sx) {ox oy : Operand} {w : World} {K : Value → World → Prop} (k : K (.bool (!eqX x y)) w) :
    SemN Try.prog (do eqGuard .neq 75 ox oy (.agg (encX x).toArray) (.agg (encX y).toArray); binOp .neq 75 (.agg (encX x).toArray) (.agg (encX y).toArray)) w K :=
  neS_i (by kernel_rfl) fieldsSib (by kernel_rfl) (eqSibF x y w) k

theorem rdotF (r n r2 n2 : Int) (w : World) : (Op.eqFields 9999 #[.int .u8 r, .int .u32 n] #[.int .u8 r2, .int .u32 n2] (Try.prog.fieldsOf 45).toList).run Try.prog w = .ok ((r == r2) && ((n == n2) && true)) w := by
  simp only [Program.fieldsOf, Try.underlying45]
  exact eqF_cons (d := 9998) rfl rfl rfl (.int Try.underlying5) (eqF_cons rfl rfl rfl (.int Try.underlying22) eqF_nil)
theorem fieldsRDot : Try.prog.underlying 45 = some (.struct (Try.prog.fieldsOf 45)) := by
  unfold Program.fieldsOf
  rw [Try.underlying45]
theorem eqRDot (r n r2 n2 : Int) {ox oy : Operand} {w : World} {K : Value → World → Prop} (k : K (.bool ((r == r2) && ((n == n2) && true))) w) :
    SemN Try.prog (do eqGuard .eql 45 ox oy (dotV r n) (dotV r2 n2); binOp .eql 45 (dotV r n) (dotV r2 n2)) w K :=
  eqS_i (by kernel_rfl) fieldsRDot (by kernel_rfl) (rdotF r n r2 n2 w) k
theorem neRDot (r n r2 n2 : Int) {ox oy : Operand} {w : World} {K : Value → World → Prop} (k : K (.bool (!((r == r2) && ((n == n2) && true)))) w) :
    SemN Try.prog (do eqGuard .neq 45 ox oy (dotV r n) (dotV r2 n2); binOp .neq 45 (dotV r n) (dotV r2 n2)) w K :=
  neS_i (by kernel_rfl) fieldsRDot (by kernel_rfl) (rdotF r n r2 n2 w) k
theorem eqRDotIn (r n r2 n2 : Int) (w : World) (d : Nat) : (Op.equalIn (d + 2) 45 (.agg #[.int .u8 r, .int .u32 n]) (.agg #[.int .u8 r2, .int .u32 n2])).run Try.prog w = .ok (eqD r n r2 n2) w := by
  rw [run_equalIn_struct w (d + 1) 45 _ _ fieldsRDot (by kernel_rfl)]
  simp only [Program.fieldsOf, Try.underlying45]
  exact eqF_cons (d := d) rfl rfl rfl (.int Try.underlying5) (eqF_cons rfl rfl rfl (.int Try.underlying22) eqF_nil)
theorem eqRSibF (x y : Sx) (w : World) : (Op.eqFields 9999 (encX x).toArray (encX y).toArray (Try.prog.fieldsOf 104).toList).run Try.prog w = .ok (eqX x y) w := by
  simp only [Program.fieldsOf, Try.underlying104]
  refine eqF_consS (us := #[.int .u8 x.r, .int .u32 x.n]) (vs := #[.int .u8 y.r, .int .u32 y.n]) rfl ?_ ?_ (eqRDotIn _ _ _ _ w 9997) ?_
  · exact part_agg (.inl ⟨_, Try.underlying45⟩) (Try.sizeOf45 w)
  · exact part_agg (.inl ⟨_, Try.underlying45⟩) (Try.sizeOf45 w)
  · rw [← toList_strY]
    exact eqF_cons (d := 9998) rfl rfl rfl (.string Try.underlying9) eqF_nil
theorem fieldsRSib : Try.prog.underlying 104 = some (.struct (Try.prog.fieldsOf 104)) := by
  unfold Program.fieldsOf
  rw [Try.underlying104]
theorem neRSib (x y : Sx) {ox oy : Operand} {w : World} {K : Value → World → Prop} (k : K (.bool (!eqX x y)) w) :
    SemN Try.prog (do eqGuard .neq 104 ox oy (.agg (encX x).toArray) (.agg (encX y).toArray); binOp .neq 104 (.agg (encX x).toArray) (.agg (encX y).toArray)) w K :=
  neS_i (by kernel_rfl) fieldsRSib (by kernel_rfl) (eqRSibF x y w) k
theorem ne8u (f g : Nat → Int) {ox oy : Operand} {w : World} {K : Value → World → Prop} (k : K (.bool (!veq f g)) w) :
    SemN Try.prog (do eqGuard .neq 23 ox oy (.agg (vecF f).toArray) (.agg (vecF g).toArray); binOp .neq 23 (.agg (vecF f).toArray) (.agg (vecF g).toArray)) w K :=
  neV_i (by kernel_rfl) Try.underlying23 inf22 Try.underlying22 (by kernel_rfl) k

theorem r6has_c (f : Nat → Int) (r n : Int) (hr : 0 ≤ r) (w : World) : Fc Try.prog 53 [vecV f, dotV r n] w fun v w' => v = .bool (hasB f r n) ∧ St [] w w' [] := by
  refine fc_i TB_ok Try.func53 rfl (by kernel_rfl) ?_
  have hS := Sf.refl w
  unfold hasB mayDotB
  by_cases h8 : r < 8
  · have hlt : r.toNat < 8 := by omega
    have g1 : decide (r < 8) = true := decide_eq_true h8
    cases h1 : decide (1 ≤ n) <;> cases h2 : decide (n ≤ 65535)
    all_goals
      repeat ((conv => whnf); first | (refine nw_f hS ?_; intro b w1 hS) | (refine as_i hS ?_) | (refine as_i (hS.subs (List.nil_sublist _) (by repeat (first | exact List.Sublist.refl _ | apply List.Sublist.cons_cons | apply List.Sublist.cons))) ?_) | (refine as_i (hS.subs (List.Sublist.refl _) (by repeat (first | exact List.Sublist.refl _ | apply List.Sublist.cons_cons | apply List.Sublist.cons))) ?_) | (refine bar_f hS ?_) | (refine ld_f hS 0 rfl rfl ?_) | (refine ld_f hS 1 rfl rfl ?_) | (refine ldA_f hS 0 rfl rfl ?_) | (refine ldA_f hS 1 rfl rfl ?_) | (refine stN_f hS 0 rfl (Nat.le_of_ble_eq_true rfl) rfl rfl ?_; (conv => whnf); intro w1 hS) | (refine stN_f hS 1 rfl (Nat.le_of_ble_eq_true rfl) rfl rfl ?_; (conv => whnf); intro w1 hS) | (refine stM_f hS 0 rfl (Nat.le_of_ble_eq_true rfl) rfl ?_; (conv => whnf); intro w1 hS) | (refine stM_f hS 1 rfl (Nat.le_of_ble_eq_true rfl) rfl ?_; (conv => whnf); intro w1 hS) | (refine br_t (by assumption) ?_) | (refine br_f (by assumption) ?_) | (apply q_i; focus (intro w1 hS; (conv => whnf); first | exact ⟨rfl, rfl⟩ | ((refine ld_f hS 0 rfl rfl ?_); (conv => whnf); exact ⟨rfl, rfl⟩) | ((refine ld_f hS 1 rfl rfl ?_); (conv => whnf); exact ⟨rfl, rfl⟩) | ((refine ldA_f hS 0 rfl rfl ?_); (conv => whnf); exact ⟨rfl, rfl⟩) | ((refine ldA_f hS 1 rfl rfl ?_); (conv => whnf); exact ⟨rfl, rfl⟩))))
      refine drawf (Ls := [_, _]) TB_ok rfl (by kernel_rfl) (by kernel_rfl) hS (List.Sublist.refl _) (List.Sublist.refl _) ?_; intro w1 hS
      repeat ((conv => whnf); first | (refine nw_f hS ?_; intro b w1 hS) | (refine as_i hS ?_) | (refine as_i (hS.subs (List.nil_sublist _) (by repeat (first | exact List.Sublist.refl _ | apply List.Sublist.cons_cons | apply List.Sublist.cons))) ?_) | (refine as_i (hS.subs (List.Sublist.refl _) (by repeat (first | exact List.Sublist.refl _ | apply List.Sublist.cons_cons | apply List.Sublist.cons))) ?_) | (refine bar_f hS ?_) | (refine ld_f hS 0 rfl rfl ?_) | (refine ld_f hS 1 rfl rfl ?_) | (refine ldA_f hS 0 rfl rfl ?_) | (refine ldA_f hS 1 rfl rfl ?_) | (refine stN_f hS 0 rfl (Nat.le_of_ble_eq_true rfl) rfl rfl ?_; (conv => whnf); intro w1 hS) | (refine stN_f hS 1 rfl (Nat.le_of_ble_eq_true rfl) rfl rfl ?_; (conv => whnf); intro w1 hS) | (refine stM_f hS 0 rfl (Nat.le_of_ble_eq_true rfl) rfl ?_; (conv => whnf); intro w1 hS) | (refine stM_f hS 1 rfl (Nat.le_of_ble_eq_true rfl) rfl ?_; (conv => whnf); intro w1 hS) | (refine .mk ⟨by omega, by omega⟩ ?_) | (refine ldv_f hS 0 rfl hlt (by show 0 + r.toNat * 1 = r.toNat; omega) ?_) | (refine ldv_f hS 1 rfl hlt (by show 0 + r.toNat * 1 = r.toNat; omega) ?_) | (refine stv_f hS 0 rfl hlt (by show 0 + r.toNat * 1 = r.toNat; omega) ?_; (conv => whnf); intro w1 hS) | (refine stv_f hS 1 rfl hlt (by show 0 + r.toNat * 1 = r.toNat; omega) ?_; (conv => whnf); intro w1 hS) | (refine drawf TB_ok rfl (by kernel_rfl) (by kernel_rfl) hS (List.Sublist.refl _) (List.Sublist.refl _) ?_; intro w1 hS) | (refine br_t (by assumption) ?_) | (refine br_f (by assumption) ?_) | (apply q_i; focus (intro w1 hS; (conv => whnf); first | exact ⟨rfl, rfl⟩ | ((refine ld_f hS 0 rfl rfl ?_); (conv => whnf); exact ⟨rfl, rfl⟩) | ((refine ld_f hS 1 rfl rfl ?_); (conv => whnf); exact ⟨rfl, rfl⟩) | ((refine ldA_f hS 0 rfl rfl ?_); (conv => whnf); exact ⟨rfl, rfl⟩) | ((refine ldA_f hS 1 rfl rfl ?_); (conv => whnf); exact ⟨rfl, rfl⟩) | ((refine .mk ⟨by omega, by omega⟩ ?_); (conv => whnf); exact ⟨rfl, rfl⟩) | ((refine ldv_f hS 0 rfl hlt (by show 0 + r.toNat * 1 = r.toNat; omega) ?_); (conv => whnf); exact ⟨rfl, rfl⟩) | ((refine ldv_f hS 1 rfl hlt (by show 0 + r.toNat * 1 = r.toNat; omega) ?_); (conv => whnf); exact ⟨rfl, rfl⟩) | ((refine stv_f hS 0 rfl hlt (by show 0 + r.toNat * 1 = r.toNat; omega) ?_; (conv => whnf); intro w1 hS); (conv => whnf); exact ⟨rfl, rfl⟩) | ((refine stv_f hS 1 rfl hlt (by show 0 + r.toNat * 1 = r.toNat; omega) ?_; (conv => whnf); intro w1 hS); (conv => whnf); exact ⟨rfl, rfl⟩))))
      exact ⟨by rw [g1]; rfl, hS.nil⟩
  · have g1 : decide (r < 8) = false := decide_eq_false h8
    repeat ((conv => whnf); first | (refine nw_f hS ?_; intro b w1 hS) | (refine as_i hS ?_) | (refine as_i (hS.subs (List.nil_sublist _) (by repeat (first | exact List.Sublist.refl _ | apply List.Sublist.cons_cons | apply List.Sublist.cons))) ?_) | (refine as_i (hS.subs (List.Sublist.refl _) (by repeat (first | exact List.Sublist.refl _ | apply List.Sublist.cons_cons | apply List.Sublist.cons))) ?_) | (refine bar_f hS ?_) | (refine ld_f hS 0 rfl rfl ?_) | (refine ld_f hS 1 rfl rfl ?_) | (refine ldA_f hS 0 rfl rfl ?_) | (refine ldA_f hS 1 rfl rfl ?_) | (refine stN_f hS 0 rfl (Nat.le_of_ble_eq_true rfl) rfl rfl ?_; (conv => whnf); intro w1 hS) | (refine stN_f hS 1 rfl (Nat.le_of_ble_eq_true rfl) rfl rfl ?_; (conv => whnf); intro w1 hS) | (refine stM_f hS 0 rfl (Nat.le_of_ble_eq_true rfl) rfl ?_; (conv => whnf); intro w1 hS) | (refine stM_f hS 1 rfl (Nat.le_of_ble_eq_true rfl) rfl ?_; (conv => whnf); intro w1 hS) | (refine br_t (by assumption) ?_) | (refine br_f (by assumption) ?_) | (apply q_i; focus (intro w1 hS; (conv => whnf); first | exact ⟨rfl, rfl⟩ | ((refine ld_f hS 0 rfl rfl ?_); (conv => whnf); exact ⟨rfl, rfl⟩) | ((refine ld_f hS 1 rfl rfl ?_); (conv => whnf); exact ⟨rfl, rfl⟩) | ((refine ldA_f hS 0 rfl rfl ?_); (conv => whnf); exact ⟨rfl, rfl⟩) | ((refine ldA_f hS 1 rfl rfl ?_); (conv => whnf); exact ⟨rfl, rfl⟩))))
    refine drawf (Ls := [_, _]) TB_ok rfl (by kernel_rfl) (by kernel_rfl) hS (List.Sublist.refl _) (List.Sublist.refl _) ?_; intro w1 hS
    repeat ((conv => whnf); first | (refine nw_f hS ?_; intro b w1 hS) | (refine as_i hS ?_) | (refine as_i (hS.subs (List.nil_sublist _) (by repeat (first | exact List.Sublist.refl _ | apply List.Sublist.cons_cons | apply List.Sublist.cons))) ?_) | (refine as_i (hS.subs (List.Sublist.refl _) (by repeat (first | exact List.Sublist.refl _ | apply List.Sublist.cons_cons | apply List.Sublist.cons))) ?_) | (refine bar_f hS ?_) | (refine ld_f hS 0 rfl rfl ?_) | (refine ld_f hS 1 rfl rfl ?_) | (refine ldA_f hS 0 rfl rfl ?_) | (refine ldA_f hS 1 rfl rfl ?_) | (refine stN_f hS 0 rfl (Nat.le_of_ble_eq_true rfl) rfl rfl ?_; (conv => whnf); intro w1 hS) | (refine stN_f hS 1 rfl (Nat.le_of_ble_eq_true rfl) rfl rfl ?_; (conv => whnf); intro w1 hS) | (refine stM_f hS 0 rfl (Nat.le_of_ble_eq_true rfl) rfl ?_; (conv => whnf); intro w1 hS) | (refine stM_f hS 1 rfl (Nat.le_of_ble_eq_true rfl) rfl ?_; (conv => whnf); intro w1 hS) | (refine drawf TB_ok rfl (by kernel_rfl) (by kernel_rfl) hS (List.Sublist.refl _) (List.Sublist.refl _) ?_; intro w1 hS) | (refine br_t (by assumption) ?_) | (refine br_f (by assumption) ?_) | (apply q_i; focus (intro w1 hS; (conv => whnf); first | exact ⟨rfl, rfl⟩ | ((refine ld_f hS 0 rfl rfl ?_); (conv => whnf); exact ⟨rfl, rfl⟩) | ((refine ld_f hS 1 rfl rfl ?_); (conv => whnf); exact ⟨rfl, rfl⟩) | ((refine ldA_f hS 0 rfl rfl ?_); (conv => whnf); exact ⟨rfl, rfl⟩) | ((refine ldA_f hS 1 rfl rfl ?_); (conv => whnf); exact ⟨rfl, rfl⟩))))
    exact ⟨by rw [g1]; rfl, hS.nil⟩
def lessD (r n r2 n2 : Int) : Bool := decide (n < n2) || (n == n2 && decide (r < r2))
theorem r6less_c (r n r2 n2 : Int) (w : World) : Fc Try.prog 54 [dotV r n, dotV r2 n2] w fun v w' => v = .bool (lessD r n r2 n2) ∧ St [] w w' [] := by
  refine fc_i TB_ok Try.func54 rfl (by kernel_rfl) ?_
  have hS := Sf.refl w
  unfold lessD
  cases h1 : decide (n < n2) <;> cases h2 : (n == n2)
  all_goals
    repeat ((conv => whnf); first | (refine nw_f hS ?_; intro b w1 hS) | (refine as_i hS ?_) | (refine as_i (hS.subs (List.nil_sublist _) (by repeat (first | exact List.Sublist.refl _ | apply List.Sublist.cons_cons | apply List.Sublist.cons))) ?_) | (refine as_i (hS.subs (List.Sublist.refl _) (by repeat (first | exact List.Sublist.refl _ | apply List.Sublist.cons_cons | apply List.Sublist.cons))) ?_) | (refine bar_f hS ?_) | (refine ld_f hS 0 rfl rfl ?_) | (refine ld_f hS 1 rfl rfl ?_) | (refine ldA_f hS 0 rfl rfl ?_) | (refine ldA_f hS 1 rfl rfl ?_) | (refine stN_f hS 0 rfl (Nat.le_of_ble_eq_true rfl) rfl rfl ?_; (conv => whnf); intro w1 hS) | (refine stN_f hS 1 rfl (Nat.le_of_ble_eq_true rfl) rfl rfl ?_; (conv => whnf); intro w1 hS) | (refine stM_f hS 0 rfl (Nat.le_of_ble_eq_true rfl) rfl ?_; (conv => whnf); intro w1 hS) | (refine stM_f hS 1 rfl (Nat.le_of_ble_eq_true rfl) rfl ?_; (conv => whnf); intro w1 hS) | (refine drawf TB_ok rfl (by kernel_rfl) (by kernel_rfl) hS (List.Sublist.refl _) (List.Sublist.refl _) ?_; intro w1 hS) | (refine br_t (by assumption) ?_) | (refine br_f (by assumption) ?_) | (apply q_i; focus (intro w1 hS; (conv => whnf); first | exact ⟨rfl, rfl⟩ | ((refine ld_f hS 0 rfl rfl ?_); (conv => whnf); exact ⟨rfl, rfl⟩) | ((refine ld_f hS 1 rfl rfl ?_); (conv => whnf); exact ⟨rfl, rfl⟩) | ((refine ldA_f hS 0 rfl rfl ?_); (conv => whnf); exact ⟨rfl, rfl⟩) | ((refine ldA_f hS 1 rfl rfl ?_); (conv => whnf); exact ⟨rfl, rfl⟩))))
    exact ⟨rfl, hS.nil⟩
theorem eqD_comm (a b c d : Int) : eqD a b c d = eqD c d a b := by
  unfold eqD
  rw [Bool.eq_iff_iff]
  simp
  constructor <;> (rintro ⟨rfl, rfl⟩; exact ⟨rfl, rfl⟩)
theorem r6in_c (A : Option Addr) (c : Nat) (ds : List (Int × Int)) (r n : Int) (w : World) (hR : Rd w A (flat encD ds)) (hn : ds.length ≤ 4611686018427387904) :
    Fc Try.prog 56 [.slice A ds.length c, dotV r n] w fun v w' => v = .bool (dotIn ds r n) ∧ St [] w w' [] := by
  refine fc_i TB_ok Try.func56 rfl (by kernel_rfl) ?_
  have hS := Sf.refl w
  repeat ((conv => whnf); first | (refine nw_f hS ?_; intro b w1 hS) | (refine as_i hS ?_) | (refine as_i (hS.subs (List.nil_sublist _) (by repeat (first | exact List.Sublist.refl _ | apply List.Sublist.cons_cons | apply List.Sublist.cons))) ?_) | (refine as_i (hS.subs (List.Sublist.refl _) (by repeat (first | exact List.Sublist.refl _ | apply List.Sublist.cons_cons | apply List.Sublist.cons))) ?_) | (refine bar_f hS ?_) | (refine ld_f hS 0 rfl rfl ?_) | (refine ldA_f hS 0 rfl rfl ?_) | (refine stN_f hS 0 rfl (Nat.le_of_ble_eq_true rfl) rfl rfl ?_; (conv => whnf); intro w1 hS) | (refine stM_f hS 0 rfl (Nat.le_of_ble_eq_true rfl) rfl ?_; (conv => whnf); intro w1 hS) | (refine drawf TB_ok rfl (by kernel_rfl) (by kernel_rfl) hS (List.Sublist.refl _) (List.Sublist.refl _) ?_; intro w1 hS) | (refine br_t (by assumption) ?_) | (refine br_f (by assumption) ?_) | (apply q_i; focus (intro w1 hS; (conv => whnf); first | exact ⟨rfl, rfl⟩ | ((refine ld_f hS 0 rfl rfl ?_); (conv => whnf); exact ⟨rfl, rfl⟩) | ((refine ldA_f hS 0 rfl rfl ?_); (conv => whnf); exact ⟨rfl, rfl⟩))))
  refine loop_i TB_ok (fun i : Nat => [(5, .int .i64 i)]) (fun i w' => i ≤ ds.length ∧ dotIn (ds.take i) r n = false ∧ Sf [] w w' [] [_]) (fun i => ds.length - i) 0 rfl ⟨Nat.zero_le _, by simp [dotIn], hS⟩ ?_
  rintro i us w2 ⟨hi, hno, hS⟩
  (conv => whnf)
  refine br_i (fun hb => ?_) (fun hb => ?_)
  · have hlt : i < ds.length := by have := of_decide_eq_true hb; omega
    obtain ⟨b, off, rfl⟩ := hR.form (flat_ne encD_len (by omega) hlt)
    cases hp : eqD r n ds[i].1 ds[i].2 with
    | true =>
      have hp' : (ds[i].1 == r && (ds[i].2 == n && true)) = true := (eqD_comm _ _ _ _).trans hp
      repeat ((conv => whnf); first | (refine nw_f hS ?_; intro b w1 hS) | (refine as_i hS ?_) | (refine as_i (hS.subs (List.nil_sublist _) (by repeat (first | exact List.Sublist.refl _ | apply List.Sublist.cons_cons | apply List.Sublist.cons))) ?_) | (refine as_i (hS.subs (List.Sublist.refl _) (by repeat (first | exact List.Sublist.refl _ | apply List.Sublist.cons_cons | apply List.Sublist.cons))) ?_) | (refine bar_f hS ?_) | (refine ld_f hS 0 rfl rfl ?_) | (refine ldA_f hS 0 rfl rfl ?_) | (refine stN_f hS 0 rfl (Nat.le_of_ble_eq_true rfl) rfl rfl ?_; (conv => whnf); intro w1 hS) | (refine stM_f hS 0 rfl (Nat.le_of_ble_eq_true rfl) rfl ?_; (conv => whnf); intro w1 hS) | (refine br_t (by assumption) ?_) | (refine br_f (by assumption) ?_) | (apply q_i; focus (intro w1 hS; (conv => whnf); first | exact ⟨rfl, rfl⟩ | ((refine ld_f hS 0 rfl rfl ?_); (conv => whnf); exact ⟨rfl, rfl⟩) | ((refine ldA_f hS 0 rfl rfl ?_); (conv => whnf); exact ⟨rfl, rfl⟩))))
      refine drawf (Ls := [_]) TB_ok rfl (by kernel_rfl) (by kernel_rfl) hS (List.Sublist.refl _) (List.Sublist.refl _) ?_; intro w1 hS
      repeat ((conv => whnf); first | (refine nw_f hS ?_; intro b w1 hS) | (refine as_i hS ?_) | (refine as_i (hS.subs (List.nil_sublist _) (by repeat (first | exact List.Sublist.refl _ | apply List.Sublist.cons_cons | apply List.Sublist.cons))) ?_) | (refine as_i (hS.subs (List.Sublist.refl _) (by repeat (first | exact List.Sublist.refl _ | apply List.Sublist.cons_cons | apply List.Sublist.cons))) ?_) | (refine bar_f hS ?_) | (refine ld_f hS 0 rfl rfl ?_) | (refine ldA_f hS 0 rfl rfl ?_) | (refine stN_f hS 0 rfl (Nat.le_of_ble_eq_true rfl) rfl rfl ?_; (conv => whnf); intro w1 hS) | (refine stM_f hS 0 rfl (Nat.le_of_ble_eq_true rfl) rfl ?_; (conv => whnf); intro w1 hS) | (refine .mk ⟨by omega, by omega⟩ ?_; refine ix_i rfl ?_) | (refine ldN_el encD_len (hR.below hS.nil).at (i := i) hlt rfl rfl ?_) | (refine eqRDot _ _ _ _ ?_; rw [hp']) | (refine drawf TB_ok rfl (by kernel_rfl) (by kernel_rfl) hS (List.Sublist.refl _) (List.Sublist.refl _) ?_; intro w1 hS) | (refine br_t (by assumption) ?_) | (refine br_f (by assumption) ?_) | (apply q_i; focus (intro w1 hS; (conv => whnf); first | exact ⟨rfl, rfl⟩ | ((refine ld_f hS 0 rfl rfl ?_); (conv => whnf); exact ⟨rfl, rfl⟩) | ((refine ldA_f hS 0 rfl rfl ?_); (conv => whnf); exact ⟨rfl, rfl⟩) | ((refine .mk ⟨by omega, by omega⟩ ?_; refine ix_i rfl ?_); (conv => whnf); exact ⟨rfl, rfl⟩) | ((refine ldN_el encD_len (hR.below hS.nil).at (i := i) hlt rfl rfl ?_); (conv => whnf); exact ⟨rfl, rfl⟩) | ((refine eqRDot _ _ _ _ ?_; rw [hp']); (conv => whnf); exact ⟨rfl, rfl⟩))))
      have hz : dotIn ds r n = true := List.any_eq_true.2 ⟨ds[i], List.getElem_mem hlt, hp⟩
      exact ⟨by rw [hz], hS.nil⟩
    | false =>
      have hp' : (ds[i].1 == r && (ds[i].2 == n && true)) = false := (eqD_comm _ _ _ _).trans hp
      repeat ((conv => whnf); first | (refine nw_f hS ?_; intro b w1 hS) | (refine as_i hS ?_) | (refine as_i (hS.subs (List.nil_sublist _) (by repeat (first | exact List.Sublist.refl _ | apply List.Sublist.cons_cons | apply List.Sublist.cons))) ?_) | (refine as_i (hS.subs (List.Sublist.refl _) (by repeat (first | exact List.Sublist.refl _ | apply List.Sublist.cons_cons | apply List.Sublist.cons))) ?_) | (refine bar_f hS ?_) | (refine ld_f hS 0 rfl rfl ?_) | (refine ldA_f hS 0 rfl rfl ?_) | (refine stN_f hS 0 rfl (Nat.le_of_ble_eq_true rfl) rfl rfl ?_; (conv => whnf); intro w1 hS) | (refine stM_f hS 0 rfl (Nat.le_of_ble_eq_true rfl) rfl ?_; (conv => whnf); intro w1 hS) | (refine br_t (by assumption) ?_) | (refine br_f (by assumption) ?_) | (apply q_i; focus (intro w1 hS; (conv => whnf); first | exact ⟨rfl, rfl⟩ | ((refine ld_f hS 0 rfl rfl ?_); (conv => whnf); exact ⟨rfl, rfl⟩) | ((refine ldA_f hS 0 rfl rfl ?_); (conv => whnf); exact ⟨rfl, rfl⟩))))
      refine drawf (Ls := [_]) TB_ok rfl (by kernel_rfl) (by kernel_rfl) hS (List.Sublist.refl _) (List.Sublist.refl _) ?_; intro w1 hS
      repeat ((conv => whnf); first | (refine nw_f hS ?_; intro b w1 hS) | (refine as_i hS ?_) | (refine as_i (hS.subs (List.nil_sublist _) (by repeat (first | exact List.Sublist.refl _ | apply List.Sublist.cons_cons | apply List.Sublist.cons))) ?_) | (refine as_i (hS.subs (List.Sublist.refl _) (by repeat (first | exact List.Sublist.refl _ | apply List.Sublist.cons_cons | apply List.Sublist.cons))) ?_) | (refine bar_f hS ?_) | (refine ld_f hS 0 rfl rfl ?_) | (refine ldA_f hS 0 rfl rfl ?_) | (refine stN_f hS 0 rfl (Nat.le_of_ble_eq_true rfl) rfl rfl ?_; (conv => whnf); intro w1 hS) | (refine stM_f hS 0 rfl (Nat.le_of_ble_eq_true rfl) rfl ?_; (conv => whnf); intro w1 hS) | (refine .mk ⟨by omega, by omega⟩ ?_; refine ix_i rfl ?_) | (refine ldN_el encD_len (hR.below hS.nil).at (i := i) hlt rfl rfl ?_) | (refine eqRDot _ _ _ _ ?_; rw [hp']) | (refine drawf TB_ok rfl (by kernel_rfl) (by kernel_rfl) hS (List.Sublist.refl _) (List.Sublist.refl _) ?_; intro w1 hS) | (refine br_t (by assumption) ?_) | (refine br_f (by assumption) ?_) | (apply q_i; focus (intro w1 hS; (conv => whnf); first | exact ⟨rfl, rfl⟩ | ((refine ld_f hS 0 rfl rfl ?_); (conv => whnf); exact ⟨rfl, rfl⟩) | ((refine ldA_f hS 0 rfl rfl ?_); (conv => whnf); exact ⟨rfl, rfl⟩) | ((refine .mk ⟨by omega, by omega⟩ ?_; refine ix_i rfl ?_); (conv => whnf); exact ⟨rfl, rfl⟩) | ((refine ldN_el encD_len (hR.below hS.nil).at (i := i) hlt rfl rfl ?_); (conv => whnf); exact ⟨rfl, rfl⟩) | ((refine eqRDot _ _ _ _ ?_; rw [hp']); (conv => whnf); exact ⟨rfl, rfl⟩))))
      refine ⟨rfl, i + 1, ?_, ⟨by omega, ?_, hS⟩, by omega⟩
      · rw [wi hlt (by omega)]
        rfl
      · unfold dotIn at hno ⊢
        rw [List.take_succ_eq_append_getElem hlt, List.any_append, hno]
        simp [hp]
  · have hge : i = ds.length := by have := of_decide_eq_false hb; omega
    rw [hge, List.take_length] at hno
    repeat ((conv => whnf); first | (refine nw_f hS ?_; intro b w1 hS) | (refine as_i hS ?_) | (refine as_i (hS.subs (List.nil_sublist _) (by repeat (first | exact List.Sublist.refl _ | apply List.Sublist.cons_cons | apply List.Sublist.cons))) ?_) | (refine as_i (hS.subs (List.Sublist.refl _) (by repeat (first | exact List.Sublist.refl _ | apply List.Sublist.cons_cons | apply List.Sublist.cons))) ?_) | (refine bar_f hS ?_) | (refine ld_f hS 0 rfl rfl ?_) | (refine ldA_f hS 0 rfl rfl ?_) | (refine stN_f hS 0 rfl (Nat.le_of_ble_eq_true rfl) rfl rfl ?_; (conv => whnf); intro w1 hS) | (refine stM_f hS 0 rfl (Nat.le_of_ble_eq_true rfl) rfl ?_; (conv => whnf); intro w1 hS) | (refine drawf TB_ok rfl (by kernel_rfl) (by kernel_rfl) hS (List.Sublist.refl _) (List.Sublist.refl _) ?_; intro w1 hS) | (refine br_t (by assumption) ?_) | (refine br_f (by assumption) ?_) | (apply q_i; focus (intro w1 hS; (conv => whnf); first | exact ⟨rfl, rfl⟩ | ((refine ld_f hS 0 rfl rfl ?_); (conv => whnf); exact ⟨rfl, rfl⟩) | ((refine ldA_f hS 0 rfl rfl ?_); (conv => whnf); exact ⟨rfl, rfl⟩))))
    exact ⟨by rw [hno], hS.nil⟩
theorem elRDt : ElemOk Try.prog TB 49 45 2 8 := ⟨rfl, ⟨_, _, inf45, rfl, rfl, rfl, rfl⟩, by decide⟩
theorem elRS : ElemOk Try.prog TB 42 104 3 24 := ⟨rfl, ⟨_, _, inf104, rfl, rfl, rfl, rfl⟩, by decide⟩
theorem encD_one (d : Int × Int) : ∀ y ∈ encD d, one y = true := by
  intro y hy
  simp [encD] at hy
  rcases hy with rfl | rfl <;> rfl
theorem r6dots_c (f : Nat → Int) (A : Option Addr) (c : Nat) (xs : List Sx) (w : World) (hR : Rd w A (flat encX xs)) (hn : xs.length ≤ 1000000) :
    Fc Try.prog 63 [regV f A xs.length c] w fun v w' => ∃ Lv, Sl 45 2 v (xs.map key).length (flat encD (xs.map key)) Lv ∧ St [] w w' Lv := by
  refine fc_i TB_ok Try.func63 rfl (by kernel_rfl) ?_
  have hS := Sf.refl w
  repeat ((conv => whnf); first | (refine nw_f hS ?_; intro b w1 hS) | (refine as_i hS ?_) | (refine as_i (hS.subs (List.nil_sublist _) (by repeat (first | exact List.Sublist.refl _ | apply List.Sublist.cons_cons | apply List.Sublist.cons))) ?_) | (refine as_i (hS.subs (List.Sublist.refl _) (by repeat (first | exact List.Sublist.refl _ | apply List.Sublist.cons_cons | apply List.Sublist.cons))) ?_) | (refine bar_f hS ?_) | (refine ld_f hS 0 rfl rfl ?_) | (refine ldA_f hS 0 rfl rfl ?_) | (refine stN_f hS 0 rfl (Nat.le_of_ble_eq_true rfl) rfl rfl ?_; (conv => whnf); intro w1 hS) | (refine stM_f hS 0 rfl (Nat.le_of_ble_eq_true rfl) rfl ?_; (conv => whnf); intro w1 hS) | (refine drawf TB_ok rfl (by kernel_rfl) (by kernel_rfl) hS (List.Sublist.refl _) (List.Sublist.refl _) ?_; intro w1 hS) | (refine br_t (by assumption) ?_) | (refine br_f (by assumption) ?_) | (apply q_i; focus (intro w1 hS; (conv => whnf); first | exact ⟨rfl, rfl⟩ | ((refine ld_f hS 0 rfl rfl ?_); (conv => whnf); exact ⟨rfl, rfl⟩) | ((refine ldA_f hS 0 rfl rfl ?_); (conv => whnf); exact ⟨rfl, rfl⟩))))
  replace hS : Sf [] w _ ([] ++ []) _ := hS
  refine loop_i TB_ok (fun t : Nat × Value => [(4, .int .i64 t.1), (3, t.2)]) (fun t w' => t.1 ≤ xs.length ∧ ∃ Lo, Sl 45 2 t.2 t.1 (flat encD ((xs.take t.1).map key)) Lo ∧ Sf [] w w' (Lo ++ []) [_]) (fun t => xs.length - t.1) (0, .slice none 0 0) rfl ⟨Nat.zero_le _, [], .nil, hS⟩ ?_
  rintro ⟨i, sl⟩ us w2 ⟨hi, Lo, hv, hS⟩
  simp only at hi hv ⊢
  obtain ⟨A2, c2, rfl, hv⟩ := hv.open
  repeat ((conv => whnf); first | (refine nw_f hS ?_; intro b w1 hS) | (refine as_i hS ?_) | (refine as_i (hS.subs (List.nil_sublist _) (by repeat (first | exact List.Sublist.refl _ | apply List.Sublist.cons_cons | apply List.Sublist.cons))) ?_) | (refine as_i (hS.subs (List.Sublist.refl _) (by repeat (first | exact List.Sublist.refl _ | apply List.Sublist.cons_cons | apply List.Sublist.cons))) ?_) | (refine bar_f hS ?_) | (refine ld_f hS 0 rfl rfl ?_) | (refine ldA_f hS 0 rfl rfl ?_) | (refine stN_f hS 0 rfl (Nat.le_of_ble_eq_true rfl) rfl rfl ?_; (conv => whnf); intro w1 hS) | (refine stM_f hS 0 rfl (Nat.le_of_ble_eq_true rfl) rfl ?_; (conv => whnf); intro w1 hS) | (refine drawf TB_ok rfl (by kernel_rfl) (by kernel_rfl) hS (List.Sublist.refl _) (List.Sublist.refl _) ?_; intro w1 hS) | (refine br_t (by assumption) ?_) | (refine br_f (by assumption) ?_) | (apply q_i; focus (intro w1 hS; (conv => whnf); first | exact ⟨rfl, rfl⟩ | ((refine ld_f hS 0 rfl rfl ?_); (conv => whnf); exact ⟨rfl, rfl⟩) | ((refine ldA_f hS 0 rfl rfl ?_); (conv => whnf); exact ⟨rfl, rfl⟩))))
  refine br_i (fun hb => ?_) (fun hb => ?_)
  · have hlt : i < xs.length := by have := of_decide_eq_true hb; omega
    obtain ⟨b, off, rfl⟩ := hR.form (flat_ne encX_len (by omega) hlt)
    repeat ((conv => whnf); first | (refine nw_f hS ?_; intro b w1 hS) | (refine as_i hS ?_) | (refine as_i (hS.subs (List.nil_sublist _) (by repeat (first | exact List.Sublist.refl _ | apply List.Sublist.cons_cons | apply List.Sublist.cons))) ?_) | (refine as_i (hS.subs (List.Sublist.refl _) (by repeat (first | exact List.Sublist.refl _ | apply List.Sublist.cons_cons | apply List.Sublist.cons))) ?_) | (refine bar_f hS ?_) | (refine ld_f hS 0 rfl rfl ?_) | (refine ldA_f hS 0 rfl rfl ?_) | (refine stN_f hS 0 rfl (Nat.le_of_ble_eq_true rfl) rfl rfl ?_; (conv => whnf); intro w1 hS) | (refine stM_f hS 0 rfl (Nat.le_of_ble_eq_true rfl) rfl ?_; (conv => whnf); intro w1 hS) | (refine .mk ⟨by omega, by omega⟩ ?_; refine ix_i rfl ?_) | (refine ldN_elp encX_len (hR.below hS.nil).at (i := i) (j0 := 0) hlt rfl (Nat.le_of_ble_eq_true rfl) [.int .u8 xs[i].r, .int .u32 xs[i].n] rfl ?_) | (refine drawf TB_ok rfl (by kernel_rfl) (by kernel_rfl) hS (List.Sublist.refl _) (List.Sublist.refl _) ?_; intro w1 hS) | (refine br_t (by assumption) ?_) | (refine br_f (by assumption) ?_) | (apply q_i; focus (intro w1 hS; (conv => whnf); first | exact ⟨rfl, rfl⟩ | ((refine ld_f hS 0 rfl rfl ?_); (conv => whnf); exact ⟨rfl, rfl⟩) | ((refine ldA_f hS 0 rfl rfl ?_); (conv => whnf); exact ⟨rfl, rfl⟩) | ((refine .mk ⟨by omega, by omega⟩ ?_; refine ix_i rfl ?_); (conv => whnf); exact ⟨rfl, rfl⟩) | ((refine ldN_elp encX_len (hR.below hS.nil).at (i := i) (j0 := 0) hlt rfl (Nat.le_of_ble_eq_true rfl) [.int .u8 xs[i].r, .int .u32 xs[i].n] rfl ?_); (conv => whnf); exact ⟨rfl, rfl⟩))))
    refine app_f TB_ok elRDt hS hv (show Rd _ _ (encD (key xs[i])) from hS.rd 0 rfl) rfl (encD_one _) (by omega) (by omega) ?_
    intro v' Lo' w6 hv' hS
    obtain ⟨A3, c3, rfl, hv'⟩ := hv'.open
    repeat ((conv => whnf); first | (refine nw_f hS ?_; intro b w1 hS) | (refine as_i hS ?_) | (refine as_i (hS.subs (List.nil_sublist _) (by repeat (first | exact List.Sublist.refl _ | apply List.Sublist.cons_cons | apply List.Sublist.cons))) ?_) | (refine as_i (hS.subs (List.Sublist.refl _) (by repeat (first | exact List.Sublist.refl _ | apply List.Sublist.cons_cons | apply List.Sublist.cons))) ?_) | (refine bar_f hS ?_) | (refine ld_f hS 0 rfl rfl ?_) | (refine ld_f hS 1 rfl rfl ?_) | (refine ldA_f hS 0 rfl rfl ?_) | (refine ldA_f hS 1 rfl rfl ?_) | (refine stN_f hS 0 rfl (Nat.le_of_ble_eq_true rfl) rfl rfl ?_; (conv => whnf); intro w1 hS) | (refine stN_f hS 1 rfl (Nat.le_of_ble_eq_true rfl) rfl rfl ?_; (conv => whnf); intro w1 hS) | (refine stM_f hS 0 rfl (Nat.le_of_ble_eq_true rfl) rfl ?_; (conv => whnf); intro w1 hS) | (refine stM_f hS 1 rfl (Nat.le_of_ble_eq_true rfl) rfl ?_; (conv => whnf); intro w1 hS) | (refine drawf TB_ok rfl (by kernel_rfl) (by kernel_rfl) hS (List.Sublist.refl _) (List.Sublist.refl _) ?_; intro w1 hS) | (refine br_t (by assumption) ?_) | (refine br_f (by assumption) ?_) | (apply q_i; focus (intro w1 hS; (conv => whnf); first | exact ⟨rfl, rfl⟩ | ((refine ld_f hS 0 rfl rfl ?_); (conv => whnf); exact ⟨rfl, rfl⟩) | ((refine ld_f hS 1 rfl rfl ?_); (conv => whnf); exact ⟨rfl, rfl⟩) | ((refine ldA_f hS 0 rfl rfl ?_); (conv => whnf); exact ⟨rfl, rfl⟩) | ((refine ldA_f hS 1 rfl rfl ?_); (conv => whnf); exact ⟨rfl, rfl⟩))))
    refine ⟨rfl, (i + 1, .slice A3 (i + 1) c3), ?_, ⟨by show i + 1 ≤ _; omega, Lo', ?_, hS.subs (List.Sublist.refl _) (.cons _ (.refl _))⟩, by show xs.length - (i + 1) < _; omega⟩
    · rw [wi hlt (by omega)]
      rfl
    · simp only
      rw [List.take_succ_eq_append_getElem hlt, List.map_append, flat_append]
      simpa [flat] using hv'
  · have hge : i = xs.length := by have := of_decide_eq_false hb; omega
    subst hge
    rw [List.take_length] at hv
    repeat ((conv => whnf); first | (refine nw_f hS ?_; intro b w1 hS) | (refine as_i hS ?_) | (refine as_i (hS.subs (List.nil_sublist _) (by repeat (first | exact List.Sublist.refl _ | apply List.Sublist.cons_cons | apply List.Sublist.cons))) ?_) | (refine as_i (hS.subs (List.Sublist.refl _) (by repeat (first | exact List.Sublist.refl _ | apply List.Sublist.cons_cons | apply List.Sublist.cons))) ?_) | (refine bar_f hS ?_) | (refine ld_f hS 0 rfl rfl ?_) | (refine ldA_f hS 0 rfl rfl ?_) | (refine stN_f hS 0 rfl (Nat.le_of_ble_eq_true rfl) rfl rfl ?_; (conv => whnf); intro w1 hS) | (refine stM_f hS 0 rfl (Nat.le_of_ble_eq_true rfl) rfl ?_; (conv => whnf); intro w1 hS) | (refine drawf TB_ok rfl (by kernel_rfl) (by kernel_rfl) hS (List.Sublist.refl _) (List.Sublist.refl _) ?_; intro w1 hS) | (refine br_t (by assumption) ?_) | (refine br_f (by assumption) ?_) | (apply q_i; focus (intro w1 hS; (conv => whnf); first | exact ⟨rfl, rfl⟩ | ((refine ld_f hS 0 rfl rfl ?_); (conv => whnf); exact ⟨rfl, rfl⟩) | ((refine ldA_f hS 0 rfl rfl ?_); (conv => whnf); exact ⟨rfl, rfl⟩))))
    exact ⟨Lo, by rw [List.length_map]; exact hv, by simpa using hS.fr (List.Sublist.refl _)⟩
theorem dots_in (xs : List Sx) (r n : Int) : dotIn (xs.map key) r n = inX xs r n := by
  unfold dotIn inX
  rw [List.any_map]
  congr 1
  funext x
  exact eqD_comm _ _ _ _
def rnextV (f : Nat → Int) (r : Int) : Nat → Int := if nextE f r = 0 then nextV f r else f
end Go.RV
