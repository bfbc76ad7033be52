/- Texts of mine, packed for a claim (bundle.py). Conditions: none. -/
import Derived.Test.YtlebdkdjjegpgaaGreatK5x2
import Derived.Shelf.Strconv.Itoa3
import Derived.Shelf.Strings.FuncGrows
import Derived.ProofKit
import Derived.SizedLaws
import Derived.OpenShut
import Derived.Deep.Slices
import Derived.LaidLaws
import Derived.LaidHandle
import Derived.Lib.AppendIntMem
import Derived.MakeChecks
import Derived.Lib.DecodeN
import Derived.Lib.Bytealg
import Derived.Laws.Externs
import Derived.Lib.AppendZeros
import Derived.WalkSmall
import Derived.Recover
set_option maxRecDepth 20000
set_option linter.unusedVariables false
set_option linter.unusedSimpArgs false
namespace Go.RV
open Go Go.Proofs

/-- a sibling: who, which, what -/
structure Sx where
  r : Int
  n : Int
  v : List UInt8
def regV (f : Nat → Int) (A : Option Addr) (l c : Nat) : Value := .agg (vecF f ++ [Value.slice A l c]).toArray
theorem ldN_elp {α : Type} {enc : α → List Value} {sz n j0 : Nat} {w : World} {b off : Nat} {xs : List α} (henc : ∀ x, (enc x).length = sz) (hc : ∀ j v o, (flat enc xs)[j]? = some v → o = off + j → w.cell? ⟨b, o, none⟩ = some v) {i o : Nat} (hi : i < xs.length) (ho : o = off + i * sz + j0) (hn : j0 + n ≤ sz) {K : List Value → Prop} (vs : List Value) (hv : ((enc xs[i]).drop j0).take n = vs) (k : K vs) : LdN w ⟨b, o, none⟩ n K := by
  have hl : vs.length = n := by rw [← hv, List.length_take, List.length_drop, henc]; omega
  refine ldN_i vs hl ?_ k
  intro j hj
  rw [add_none]
  have h1 := flat_get henc xs i hi (j0 + j) (by omega)
  rw [← hv, List.getElem?_take, if_pos hj, List.getElem?_drop]
  have hlt : j0 + j < (enc xs[i]).length := by rw [henc]; omega
  rw [List.getElem?_eq_getElem hlt] at h1 ⊢
  exact hc _ _ _ h1 (by omega)
def cmpI (a b : Int) : Int := if a < b then -1 else if b < a then 1 else 0
def encJi (x : Int) : List Value := [.int .i64 x]
theorem encJi_len (x : Int) : (encJi x).length = 1 := rfl
def orL : List Int → Int
  | [] => 0
  | x :: r => if x = 0 then orL r else x
def ordI (r n r2 n2 : Int) : Int := orL [cmpI n n2, cmpI r r2]
def lessX (a b : Sx) : Bool := decide (a.n < b.n) || (a.n == b.n && decide (a.r < b.r))
theorem ord_less (a b : Sx) : decide (0 ≤ ordI a.r a.n b.r b.n) = !lessX a b := by
  unfold ordI orL orL orL cmpI lessX
  rw [Bool.eq_iff_iff]
  simp only [decide_eq_true_eq, Bool.not_eq_true', Bool.or_eq_false_iff, decide_eq_false_iff_not, Bool.and_eq_false_iff, beq_eq_false_iff_ne]
  split <;> split <;> (try split) <;> (try split) <;> (try split) <;> omega
theorem nan32_c (a : Int) (w : World) : Fc Tryz.prog 141 [.int .u32 a] w fun v w' => v = .bool false ∧ St [] w w' [] := by
  refine fc_i TB_ok Tryz.func141 rfl (by kernel_rfl) ?_
  have hS := Sf.refl w
  repeat ((conv => whnf); first | (apply q_i; focus (intro w1 hS; (conv => whnf); first | exact ⟨rfl, rfl⟩)) | (refine nw_f hS ?_; intro b w1 hS) | refine as_i hS ?_ | refine as_i (hS.subs (List.nil_sublist _) sb9) ?_ | refine as_i (hS.subs (List.Sublist.refl _) sb9) ?_ | refine bar_f hS ?_ | (refine dr9 hS ?_; intro w1 hS) | refine br_t (by assumption) ?_ | refine br_f (by assumption) ?_)
  exact ⟨congrArg Value.bool (by simp), hS.nil⟩
theorem nan8_c (a : Int) (w : World) : Fc Tryz.prog 142 [.int .u8 a] w fun v w' => v = .bool false ∧ St [] w w' [] := by
  refine fc_i TB_ok Tryz.func142 rfl (by kernel_rfl) ?_
  have hS := Sf.refl w
  repeat ((conv => whnf); first | (apply q_i; focus (intro w1 hS; (conv => whnf); first | exact ⟨rfl, rfl⟩)) | (refine nw_f hS ?_; intro b w1 hS) | refine as_i hS ?_ | refine as_i (hS.subs (List.nil_sublist _) sb9) ?_ | refine as_i (hS.subs (List.Sublist.refl _) sb9) ?_ | refine bar_f hS ?_ | (refine dr9 hS ?_; intro w1 hS) | refine br_t (by assumption) ?_ | refine br_f (by assumption) ?_)
  exact ⟨congrArg Value.bool (by simp), hS.nil⟩
theorem cmp32_c (a b : Int) (w : World) : Fc Tryz.prog 133 [.int .u32 a, .int .u32 b] w fun v w' => v = .int .i64 (cmpI a b) ∧ St [] w w' [] := by
  refine fc_i TB_ok Tryz.func133 rfl (by kernel_rfl) ?_
  have hS := Sf.refl w
  unfold cmpI
  by_cases h1 : a < b
  · have g1 : decide (a < b) = true := decide_eq_true h1
    rw [if_pos h1]
    repeat ((conv => whnf); first | (apply q_i; focus (intro w1 hS; (conv => whnf); first | exact ⟨rfl, rfl⟩)) | (refine nw_f hS ?_; intro b w1 hS) | refine as_i hS ?_ | refine as_i (hS.subs (List.nil_sublist _) sb9) ?_ | refine as_i (hS.subs (List.Sublist.refl _) sb9) ?_ | refine bar_f hS ?_ | (refine fc_m (nan32_c _ _) ?_; rintro v w3 ⟨rfl, hS'⟩; replace hS := hS.call0 hS') | (refine dr9 hS ?_; intro w1 hS) | refine br_t (by assumption) ?_ | refine br_f (by assumption) ?_)
    exact ⟨rfl, hS.nil⟩
  · have g1 : decide (a < b) = false := decide_eq_false h1
    rw [if_neg h1]
    by_cases h2 : b < a
    · have g2 : decide (b < a) = true := decide_eq_true h2
      rw [if_pos h2]
      repeat ((conv => whnf); first | (apply q_i; focus (intro w1 hS; (conv => whnf); first | exact ⟨rfl, rfl⟩)) | (refine nw_f hS ?_; intro b w1 hS) | refine as_i hS ?_ | refine as_i (hS.subs (List.nil_sublist _) sb9) ?_ | refine as_i (hS.subs (List.Sublist.refl _) sb9) ?_ | refine bar_f hS ?_ | (refine fc_m (nan32_c _ _) ?_; rintro v w3 ⟨rfl, hS'⟩; replace hS := hS.call0 hS') | (refine dr9 hS ?_; intro w1 hS) | refine br_t (by assumption) ?_ | refine br_f (by assumption) ?_)
      exact ⟨rfl, hS.nil⟩
    · have g2 : decide (b < a) = false := decide_eq_false h2
      rw [if_neg h2]
      repeat ((conv => whnf); first | (apply q_i; focus (intro w1 hS; (conv => whnf); first | exact ⟨rfl, rfl⟩)) | (refine nw_f hS ?_; intro b w1 hS) | refine as_i hS ?_ | refine as_i (hS.subs (List.nil_sublist _) sb9) ?_ | refine as_i (hS.subs (List.Sublist.refl _) sb9) ?_ | refine bar_f hS ?_ | (refine fc_m (nan32_c _ _) ?_; rintro v w3 ⟨rfl, hS'⟩; replace hS := hS.call0 hS') | (refine dr9 hS ?_; intro w1 hS) | refine br_t (by assumption) ?_ | refine br_f (by assumption) ?_)
      exact ⟨rfl, hS.nil⟩
theorem cmp8_c (a b : Int) (w : World) : Fc Tryz.prog 134 [.int .u8 a, .int .u8 b] w fun v w' => v = .int .i64 (cmpI a b) ∧ St [] w w' [] := by
  refine fc_i TB_ok Tryz.func134 rfl (by kernel_rfl) ?_
  have hS := Sf.refl w
  unfold cmpI
  by_cases h1 : a < b
  · have g1 : decide (a < b) = true := decide_eq_true h1
    rw [if_pos h1]
    repeat ((conv => whnf); first | (apply q_i; focus (intro w1 hS; (conv => whnf); first | exact ⟨rfl, rfl⟩)) | (refine nw_f hS ?_; intro b w1 hS) | refine as_i hS ?_ | refine as_i (hS.subs (List.nil_sublist _) sb9) ?_ | refine as_i (hS.subs (List.Sublist.refl _) sb9) ?_ | refine bar_f hS ?_ | (refine fc_m (nan8_c _ _) ?_; rintro v w3 ⟨rfl, hS'⟩; replace hS := hS.call0 hS') | (refine dr9 hS ?_; intro w1 hS) | refine br_t (by assumption) ?_ | refine br_f (by assumption) ?_)
    exact ⟨rfl, hS.nil⟩
  · have g1 : decide (a < b) = false := decide_eq_false h1
    rw [if_neg h1]
    by_cases h2 : b < a
    · have g2 : decide (b < a) = true := decide_eq_true h2
      rw [if_pos h2]
      repeat ((conv => whnf); first | (apply q_i; focus (intro w1 hS; (conv => whnf); first | exact ⟨rfl, rfl⟩)) | (refine nw_f hS ?_; intro b w1 hS) | refine as_i hS ?_ | refine as_i (hS.subs (List.nil_sublist _) sb9) ?_ | refine as_i (hS.subs (List.Sublist.refl _) sb9) ?_ | refine bar_f hS ?_ | (refine fc_m (nan8_c _ _) ?_; rintro v w3 ⟨rfl, hS'⟩; replace hS := hS.call0 hS') | (refine dr9 hS ?_; intro w1 hS) | refine br_t (by assumption) ?_ | refine br_f (by assumption) ?_)
      exact ⟨rfl, hS.nil⟩
    · have g2 : decide (b < a) = false := decide_eq_false h2
      rw [if_neg h2]
      repeat ((conv => whnf); first | (apply q_i; focus (intro w1 hS; (conv => whnf); first | exact ⟨rfl, rfl⟩)) | (refine nw_f hS ?_; intro b w1 hS) | refine as_i hS ?_ | refine as_i (hS.subs (List.nil_sublist _) sb9) ?_ | refine as_i (hS.subs (List.Sublist.refl _) sb9) ?_ | refine bar_f hS ?_ | (refine fc_m (nan8_c _ _) ?_; rintro v w3 ⟨rfl, hS'⟩; replace hS := hS.call0 hS') | (refine dr9 hS ?_; intro w1 hS) | refine br_t (by assumption) ?_ | refine br_f (by assumption) ?_)
      exact ⟨rfl, hS.nil⟩
theorem or_c (A : Option Addr) (c : Nat) (xs : List Int) (w : World) (hR : Rd w A (flat encJi xs)) (hn : xs.length ≤ 4611686018427387904) :
    Fc Tryz.prog 132 [.slice A xs.length c] w fun v w' => v = .int .i64 (orL xs) ∧ St [] w w' [] := by
  refine fc_i TB_ok Tryz.func132 rfl (by kernel_rfl) ?_
  have hS := Sf.refl w
  repeat ((conv => whnf); first | (apply q_i; focus (intro w1 hS; (conv => whnf); first | exact ⟨rfl, rfl⟩)) | (refine nw_f hS ?_; intro b w1 hS) | refine as_i hS ?_ | refine as_i (hS.subs (List.nil_sublist _) sb9) ?_ | refine as_i (hS.subs (List.Sublist.refl _) sb9) ?_ | refine bar_f hS ?_ | (refine dr9 hS ?_; intro w1 hS) | refine br_t (by assumption) ?_ | refine br_f (by assumption) ?_)
  refine loop_i TB_ok (fun i : Nat => [(8, .int .i64 i)]) (fun i w' => i ≤ xs.length ∧ orL xs = orL (xs.drop i) ∧ Sf [] w w' [] []) (fun i => xs.length - i) 0 rfl ⟨Nat.zero_le _, rfl, hS⟩ ?_
  rintro i us w2 ⟨hi, ho, hS⟩
  (conv => whnf)
  refine br_i (fun hb => ?_) (fun hb => ?_)
  · have hlt : i < xs.length := by have := of_decide_eq_true hb; omega
    obtain ⟨b, off, rfl⟩ := hR.form (flat_ne encJi_len (by omega) hlt)
    rw [List.drop_eq_getElem_cons hlt] at ho
    unfold orL at ho
    by_cases h0 : xs[i] = 0
    · have g : (xs[i] != 0) = false := by simp [h0]
      rw [if_pos h0] at ho
      repeat ((conv => whnf); first | (apply q_i; focus (intro w1 hS; (conv => whnf); first | exact ⟨rfl, rfl⟩ | ((refine .mk ⟨by omega, by omega⟩ ?_; refine ix_i rfl ?_); (conv => whnf); exact ⟨rfl, rfl⟩) | ((refine ld_el encJi_len (hR.below hS.nil).at (i := i) (k := 0) hlt (by omega) rfl (v := .int .i64 xs[i]) rfl ?_); (conv => whnf); exact ⟨rfl, rfl⟩))) | (refine nw_f hS ?_; intro b w1 hS) | refine as_i hS ?_ | refine as_i (hS.subs (List.nil_sublist _) sb9) ?_ | refine as_i (hS.subs (List.Sublist.refl _) sb9) ?_ | refine bar_f hS ?_ | (refine .mk ⟨by omega, by omega⟩ ?_; refine ix_i rfl ?_) | refine ld_el encJi_len (hR.below hS.nil).at (i := i) (k := 0) hlt (by omega) rfl (v := .int .i64 xs[i]) rfl ?_ | (refine dr9 hS ?_; intro w1 hS) | refine br_t (by assumption) ?_ | refine br_f (by assumption) ?_)
      refine ⟨rfl, i + 1, ?_, ⟨by omega, ?_, hS⟩, by omega⟩
      · rw [wi hlt (by omega)]
        rfl
      · rw [← ho]
        cases xs <;> rfl
    · have g : (xs[i] != 0) = true := by simp [h0]
      rw [if_neg h0] at ho
      repeat ((conv => whnf); first | (apply q_i; focus (intro w1 hS; (conv => whnf); first | exact ⟨rfl, rfl⟩ | ((refine .mk ⟨by omega, by omega⟩ ?_; refine ix_i rfl ?_); (conv => whnf); exact ⟨rfl, rfl⟩) | ((refine ld_el encJi_len (hR.below hS.nil).at (i := i) (k := 0) hlt (by omega) rfl (v := .int .i64 xs[i]) rfl ?_); (conv => whnf); exact ⟨rfl, rfl⟩))) | (refine nw_f hS ?_; intro b w1 hS) | refine as_i hS ?_ | refine as_i (hS.subs (List.nil_sublist _) sb9) ?_ | refine as_i (hS.subs (List.Sublist.refl _) sb9) ?_ | refine bar_f hS ?_ | (refine .mk ⟨by omega, by omega⟩ ?_; refine ix_i rfl ?_) | refine ld_el encJi_len (hR.below hS.nil).at (i := i) (k := 0) hlt (by omega) rfl (v := .int .i64 xs[i]) rfl ?_ | (refine dr9 hS ?_; intro w1 hS) | refine br_t (by assumption) ?_ | refine br_f (by assumption) ?_)
      refine ⟨?_, hS.nil⟩
      rw [← ho]
      cases xs <;> rfl
  · have hge : i = xs.length := by have := of_decide_eq_false hb; omega
    rw [List.drop_eq_nil_of_le (by omega)] at ho
    rw [ho]
    repeat ((conv => whnf); first | (apply q_i; focus (intro w1 hS; (conv => whnf); first | exact ⟨rfl, rfl⟩)) | (refine nw_f hS ?_; intro b w1 hS) | refine as_i hS ?_ | refine as_i (hS.subs (List.nil_sublist _) sb9) ?_ | refine as_i (hS.subs (List.Sublist.refl _) sb9) ?_ | refine bar_f hS ?_ | (refine dr9 hS ?_; intro w1 hS) | refine br_t (by assumption) ?_ | refine br_f (by assumption) ?_)
    exact ⟨rfl, hS.nil⟩
theorem order_c (r n r2 n2 : Int) (w : World) : Fc Tryz.prog 122 [dotV r n, dotV r2 n2] w fun v w' => v = .int .i64 (ordI r n r2 n2) ∧ St [] w w' [] := by
  refine fc_i TB_ok Tryz.func122 rfl (by kernel_rfl) ?_
  have hS := Sf.refl w
  repeat ((conv => whnf); first | (apply q_i; focus (intro w1 hS; (conv => whnf); first | exact ⟨rfl, rfl⟩ | ((first | refine ld_f hS 0 rfl rfl ?_ | refine ld_f hS 1 rfl rfl ?_ | refine ldA_f hS 0 rfl rfl ?_ | refine ldA_f hS 1 rfl rfl ?_); (conv => whnf); exact ⟨rfl, rfl⟩))) | (refine nw_f hS ?_; intro b w1 hS) | refine as_i hS ?_ | refine as_i (hS.subs (List.nil_sublist _) sb9) ?_ | refine as_i (hS.subs (List.Sublist.refl _) sb9) ?_ | refine bar_f hS ?_ | refine ld_f hS 0 rfl rfl ?_ | refine ld_f hS 1 rfl rfl ?_ | refine ldA_f hS 0 rfl rfl ?_ | refine ldA_f hS 1 rfl rfl ?_ | ((first | refine stN_f hS 0 rfl (lb9 rfl) rfl rfl ?_ | refine stN_f hS 1 rfl (lb9 rfl) rfl rfl ?_ | refine stM_f hS 0 rfl (lb9 rfl) rfl ?_ | refine stM_f hS 1 rfl (lb9 rfl) rfl ?_); (conv => whnf); intro w1 hS) | refine br_t (by assumption) ?_ | refine br_f (by assumption) ?_)
  refine drawf (Ls := [_, _]) TB_ok rfl (by kernel_rfl) (by kernel_rfl) hS (List.Sublist.refl _) (List.Sublist.refl _) ?_; intro w1 hS
  repeat' ((conv => whnf); first | refine And.intro ?_ ?_ | (apply q_i; focus (intro w1 hS; (conv => whnf); first | exact ⟨rfl, rfl⟩ | ((first | refine ld_f hS 0 rfl rfl ?_ | refine ld_f hS 1 rfl rfl ?_ | refine ld_f hS 2 rfl rfl ?_ | refine ldA_f hS 0 rfl rfl ?_ | refine ldA_f hS 1 rfl rfl ?_ | refine ldA_f hS 2 rfl rfl ?_); (conv => whnf); exact ⟨rfl, rfl⟩))) | (refine nw_f hS ?_; intro b w1 hS) | refine as_i hS ?_ | refine as_i (hS.subs (List.nil_sublist _) sb9) ?_ | refine as_i (hS.subs (List.Sublist.refl _) sb9) ?_ | refine bar_f hS ?_ | refine ld_f hS 0 rfl rfl ?_ | refine ld_f hS 1 rfl rfl ?_ | refine ld_f hS 2 rfl rfl ?_ | refine ldA_f hS 0 rfl rfl ?_ | refine ldA_f hS 1 rfl rfl ?_ | refine ldA_f hS 2 rfl rfl ?_ | ((first | refine stN_f hS 0 rfl (lb9 rfl) rfl rfl ?_ | refine stN_f hS 1 rfl (lb9 rfl) rfl rfl ?_ | refine stN_f hS 2 rfl (lb9 rfl) rfl rfl ?_ | refine stM_f hS 0 rfl (lb9 rfl) rfl ?_ | refine stM_f hS 1 rfl (lb9 rfl) rfl ?_ | refine stM_f hS 2 rfl (lb9 rfl) rfl ?_); (conv => whnf); intro w1 hS) | (refine fc_m (cmp32_c n n2 _) ?_; rintro v w3 ⟨rfl, hS'⟩; replace hS := hS.call0 hS') | (refine fc_m (cmp8_c r r2 _) ?_; rintro v w3 ⟨rfl, hS'⟩; replace hS := hS.call0 hS') | (refine fc_m (or_c _ _ [cmpI n n2, cmpI r r2] _ (show Rd _ _ (flat encJi [cmpI n n2, cmpI r r2]) from hS.rd 0 rfl) (lb9 rfl)) ?_; rintro v w3 ⟨rfl, hS'⟩; replace hS := hS.call0 hS') | (refine dr9 hS ?_; intro w1 hS) | refine br_t (by assumption) ?_ | refine br_f (by assumption) ?_)
  all_goals first | exact rfl | exact hS.nil
end Go.RV

set_option maxRecDepth 100000
set_option linter.unusedVariables false
namespace Go.RV.C04
open Go Go.Proofs Go.Shelf
def renw17 : Ren := ⟨fun x => match x with | 17 => 138 | 15 => 144 | 20 => 146 | n => n, fun x => match x with | 9 => 9 | 23 => 202 | 4 => 4 | 3 => 3 | 0 => 0 | 21 => 21 | n => n, fun x => x⟩
theorem laysw17 : LaysGw.n17 Tryz.prog renw17 where
  mixed := by kernel_rfl
  f15 := Tryz.func144.trans (congrArg some (by kernel_rfl))
  f17 := Tryz.func138.trans (congrArg some (by kernel_rfl))
  f20 := Tryz.func146.trans (congrArg some (by kernel_rfl))
  t0 := Tryz.underlying0
  a0 := Tryz.isAgg0
  z0 := Tryz.sizeOf0
  v0 := Tryz.zeroValue0
  i0 := by kernel_rfl
  t3 := Tryz.underlying3
  a3 := Tryz.isAgg3
  z3 := Tryz.sizeOf3
  v3 := Tryz.zeroValue3
  i3 := by kernel_rfl
  t4 := Tryz.underlying4
  a4 := Tryz.isAgg4
  z4 := Tryz.sizeOf4
  v4 := Tryz.zeroValue4
  i4 := by kernel_rfl
  t9 := Tryz.underlying9
  a9 := Tryz.isAgg9
  z9 := Tryz.sizeOf9
  v9 := Tryz.zeroValue9
  i9 := by kernel_rfl
  t21 := Tryz.underlying21
  a21 := Tryz.isAgg21
  z21 := Tryz.sizeOf21
  v21 := Tryz.zeroValue21
  i21 := by kernel_rfl
  t23 := Tryz.underlying202
  a23 := Tryz.isAgg202
  z23 := Tryz.sizeOf202
  v23 := Tryz.zeroValue202
  i23 := by kernel_rfl
end Go.RV.C04

set_option linter.unusedVariables false
set_option linter.unusedSimpArgs false
namespace Go.RV
open Go Go.RowKit Go.ChangeShapes Go.WideShapes

section
variable {P : Program} {w : World} {r : Reach} {b0 : Nat}

theorem cell_string {t : TypeId} {v : Value} (ht : P.underlying t = some .string) (h : Cell.okWide P w r b0 t v) : ∃ s, v = .string s ∧ (s.size : Int) ≤ IntKind.i64.max := by
  simp only [Cell.okWide, ht] at h
  cases v <;> simp_all [Cell.ok]

variable {H : Type} {en : TypeId × Value → H} {base : Nat} {spare : Nat → Bool} {held : Bool}

end
end Go.RV

set_option maxRecDepth 20000
set_option linter.unusedVariables false
set_option linter.unusedSimpArgs false
namespace Go.RV.C04
open Go Go.Proofs Go.RowKit

def dotV (r n : Int) : Value := .agg #[.int .u8 r, .int .u32 n]
/-- a number's last byte -/
def yI (x : Int) : UInt8 := UInt8.ofNat (x % 256).toNat
theorem yI_val (x : Int) : (((yI x).toNat : Nat) : Int) = x % 256 := by
  unfold yI
  rw [UInt8.toNat_ofNat']
  have h1 : 0 ≤ x % 256 := Int.emod_nonneg _ (by decide)
  have h2 : x % 256 < 256 := Int.emod_lt_of_pos _ (by decide)
  have h3 : (x % 256).toNat % 2 ^ 8 = (x % 256).toNat := Nat.mod_eq_of_lt (by omega)
  rw [h3]
  omega
theorem u8v (x : Int) : [Value.int .u8 (IntKind.u8.wrap x)] = flat encY [yI x] := by
  show _ = [Value.int .u8 (((yI x).toNat : Nat) : Int)]
  rw [yI_val, wrap_u8_mod]
theorem byteAt_strY {l : List UInt8} {i : Nat} (h : i < l.length) : byteAt (strY l) i = (l[i].toNat : Int) := by
  unfold byteAt strY
  simp [h]
theorem strY_extract (l : List UInt8) (a b : Nat) : (strY l).extract a b = strY ((l.take b).drop a) := by
  apply ByteArray.ext
  simp [strY, List.drop_take]
theorem streq_strY (a b : List UInt8) : streq (strY a) (strY b) = decide (a = b) := by
  unfold streq
  rw [ByteArray.toList_eq, ByteArray.toList_eq]
  show ((⟨a.toArray⟩ : ByteArray).data.toList == (⟨b.toArray⟩ : ByteArray).data.toList) = _
  rw [Bool.eq_iff_iff]
  simp
def badC (n : Nat) : Bool := decide (n < 33) || (decide (125 < n) || n == 47)
theorem get_strY {l : List UInt8} {i : Nat} (h : i < l.length) : (strY l).get! i = l[i] := by
  have : i < l.toArray.size := by simpa using h
  show l.toArray[i]! = l[i]
  simp [h]
theorem decodeN_hi {n b0 b1 b2 b3 : Nat} (h : ¬ b0 < 128) : 128 ≤ (Lib.decodeN n b0 b1 b2 b3).1 := by
  unfold Lib.decodeN
  rw [if_neg h]
  repeat' split
  all_goals (simp only; omega)
theorem idx_bad (l : List UInt8) : ∀ (f pos : Nat), l.length - pos ≤ f → (0 ≤ Lib.idxFuncFrom badC true (strY l) f pos ↔ ∃ j, ∃ h : j < l.length, pos ≤ j ∧ badC l[j].toNat = true)
  | 0, pos, hf => by
    unfold Lib.idxFuncFrom
    constructor
    · intro h; omega
    · rintro ⟨j, hj, h1, _⟩; omega
  | f+1, pos, hf => by
    unfold Lib.idxFuncFrom
    have hsz := strY_size l
    by_cases hp : pos < l.length
    · rw [if_pos (by omega), Lib.decode_at, get_strY hp]
      by_cases hb : l[pos].toNat < 128
      · rw [show Lib.decodeN ((strY l).size - pos) l[pos].toNat ((strY l).get! (pos + 1)).toNat ((strY l).get! (pos + 2)).toNat ((strY l).get! (pos + 3)).toNat = (l[pos].toNat, 1) from by unfold Lib.decodeN; rw [if_pos hb]]
        simp only
        by_cases hq : badC l[pos].toNat = true
        · rw [if_pos hq]
          exact ⟨fun _ => ⟨pos, hp, Nat.le_refl _, hq⟩, fun _ => by omega⟩
        · rw [if_neg hq, idx_bad l f (pos + 1) (by omega)]
          constructor
          · rintro ⟨j, hj, h1, h2⟩; exact ⟨j, hj, by omega, h2⟩
          · rintro ⟨j, hj, h1, h2⟩
            refine ⟨j, hj, ?_, h2⟩
            by_cases e : j = pos
            · subst e; exact absurd h2 hq
            · omega
      · have hi := decodeN_hi (n := (strY l).size - pos) (b1 := ((strY l).get! (pos + 1)).toNat) (b2 := ((strY l).get! (pos + 2)).toNat) (b3 := ((strY l).get! (pos + 3)).toNat) hb
        rw [if_pos (by unfold badC; simp; omega)]
        exact ⟨fun _ => ⟨pos, hp, Nat.le_refl _, by unfold badC; simp; omega⟩, fun _ => by omega⟩
    · rw [if_neg (by omega)]
      constructor
      · intro h; omega
      · rintro ⟨j, hj, h1, _⟩; omega
theorem idx_any (l : List UInt8) : decide (0 ≤ Lib.idxFunc badC true (strY l)) = l.any fun c => badC c.toNat := by
  rw [Bool.eq_iff_iff, decide_eq_true_iff, Lib.idxFunc, idx_bad l _ 0 (by rw [strY_size]; omega), List.any_eq_true]
  constructor
  · rintro ⟨j, hj, _, h⟩; exact ⟨_, List.getElem_mem hj, h⟩
  · rintro ⟨c, hc, h⟩
    obtain ⟨j, hj, rfl⟩ := List.getElem_of_mem hc
    exact ⟨j, hj, Nat.zero_le _, h⟩
theorem may_c (x : Nat) (w : World) : Fc Tryz.prog 140 [.int .i32 (x : Int)] w fun v w' => v = .bool (!badC x) ∧ St [] w w' [] := by
  refine fc_i TB_ok Tryz.func140 rfl (by kernel_rfl) ?_
  have hS := Sf.refl w
  by_cases h1 : x < 33
  · have g1 : decide ((33 : Int) ≤ (x : Int)) = false := decide_eq_false (by omega)
    have e : badC x = true := by unfold badC; simp [h1]
    rw [e]
    repeat ((conv => whnf); first | (apply q_i; focus (intro w1 hS; (conv => whnf); first | exact ⟨rfl, rfl⟩)) | (refine nw_f hS ?_; intro b w1 hS) | refine as_i hS ?_ | refine as_i (hS.subs (List.nil_sublist _) sb9) ?_ | refine as_i (hS.subs (List.Sublist.refl _) sb9) ?_ | refine bar_f hS ?_ | (refine dr9 hS ?_; intro w1 hS) | refine br_t (by assumption) ?_ | refine br_f (by assumption) ?_)
    exact ⟨rfl, hS.nil⟩
  have g1 : decide ((33 : Int) ≤ (x : Int)) = true := decide_eq_true (by omega)
  by_cases h2 : x < 126
  · have g2 : decide ((x : Int) < 126) = true := decide_eq_true (by omega)
    by_cases h3 : x = 47
    · subst h3
      repeat ((conv => whnf); first | (apply q_i; focus (intro w1 hS; (conv => whnf); first | exact ⟨rfl, rfl⟩)) | (refine nw_f hS ?_; intro b w1 hS) | refine as_i hS ?_ | refine as_i (hS.subs (List.nil_sublist _) sb9) ?_ | refine as_i (hS.subs (List.Sublist.refl _) sb9) ?_ | refine bar_f hS ?_ | (refine dr9 hS ?_; intro w1 hS) | refine br_t (by assumption) ?_ | refine br_f (by assumption) ?_)
      exact ⟨rfl, hS.nil⟩
    · have g3 : ((x : Int) != 47) = true := by simp; omega
      have e : badC x = false := by unfold badC; simp; omega
      rw [e]
      repeat ((conv => whnf); first | (apply q_i; focus (intro w1 hS; (conv => whnf); first | exact ⟨rfl, rfl⟩)) | (refine nw_f hS ?_; intro b w1 hS) | refine as_i hS ?_ | refine as_i (hS.subs (List.nil_sublist _) sb9) ?_ | refine as_i (hS.subs (List.Sublist.refl _) sb9) ?_ | refine bar_f hS ?_ | (refine dr9 hS ?_; intro w1 hS) | refine br_t (by assumption) ?_ | refine br_f (by assumption) ?_)
      exact ⟨congrArg Value.bool g3, hS.nil⟩
  · have g2 : decide ((x : Int) < 126) = false := decide_eq_false (by omega)
    have e : badC x = true := by unfold badC; simp; omega
    rw [e]
    repeat ((conv => whnf); first | (apply q_i; focus (intro w1 hS; (conv => whnf); first | exact ⟨rfl, rfl⟩)) | (refine nw_f hS ?_; intro b w1 hS) | refine as_i hS ?_ | refine as_i (hS.subs (List.nil_sublist _) sb9) ?_ | refine as_i (hS.subs (List.Sublist.refl _) sb9) ?_ | refine bar_f hS ?_ | (refine dr9 hS ?_; intro w1 hS) | refine br_t (by assumption) ?_ | refine br_f (by assumption) ?_)
    exact ⟨rfl, hS.nil⟩
theorem check1_c (x : Nat) (w : World) : Fc Tryz.prog 139 [.int .i32 (x : Int)] w fun v w' => v = .bool (badC x) ∧ St [] w w' [] := by
  refine fc_i TB_ok Tryz.func139 rfl (by kernel_rfl) ?_
  have hS := Sf.refl w
  repeat ((conv => whnf); first | (apply q_i; focus (intro w1 hS; (conv => whnf); first | exact ⟨rfl, rfl⟩)) | (refine nw_f hS ?_; intro b w1 hS) | refine as_i hS ?_ | refine as_i (hS.subs (List.nil_sublist _) sb9) ?_ | refine as_i (hS.subs (List.Sublist.refl _) sb9) ?_ | refine bar_f hS ?_ | (refine dr9 hS ?_; intro w1 hS) | refine br_t (by assumption) ?_ | refine br_f (by assumption) ?_)
  refine fc_m (may_c x _) ?_; rintro v w1 ⟨rfl, hS'⟩; replace hS := hS.call0 hS'
  repeat ((conv => whnf); first | (apply q_i; focus (intro w1 hS; (conv => whnf); first | exact ⟨rfl, rfl⟩)) | (refine nw_f hS ?_; intro b w1 hS) | refine as_i hS ?_ | refine as_i (hS.subs (List.nil_sublist _) sb9) ?_ | refine as_i (hS.subs (List.Sublist.refl _) sb9) ?_ | refine bar_f hS ?_ | (refine dr9 hS ?_; intro w1 hS) | refine br_t (by assumption) ?_ | refine br_f (by assumption) ?_)
  exact ⟨by rw [Bool.not_not], hS.nil⟩
theorem enters1 : ∀ args w, (callFunc 139 args).run Tryz.prog w = .ok (.enter 139 args) w := fun args w => run_callFunc_body Tryz.func139 rfl (by kernel_rfl)
theorem has_c (l : List UInt8) (w : World) : Fc Tryz.prog 138 [.string (strY l), .func (.func 139) #[] #[]] w fun v w' => v = .bool (l.any fun c => badC c.toNat) ∧ St [] w w' [] := by
  refine fc_of_calls Tryz.func138 rfl (by kernel_rfl) ?_
  have h := Any.strings_ContainsFunc_grows laysw17 139 #[] enters1 badC (strY l) w (fun W x _ _ => by
    have := calls_of_fc Tryz.func139 rfl (by kernel_rfl) (check1_c x W)
    exact this.mono fun e w' ⟨v, he, hv, hS⟩ => ⟨by rw [he, hv], hS.below⟩)
  rw [idx_any] at h
  exact h.mono fun e w' ⟨he, hw⟩ => ⟨_, he, rfl, St.of_below' hw⟩
theorem streq_nil (s : List UInt8) : streq (strY s) ⟨#[]⟩ = s.isEmpty := by
  have := streq_strY s []
  rw [show strY [] = ⟨#[]⟩ from rfl] at this
  rw [this]
  cases s <;> simp
def bads (l : List UInt8) : Bool := l.any fun c => badC c.toNat
def checkE (l : List UInt8) : Int := if l.isEmpty || bads l then 4 else if 8 < l.length then 3 else 0
theorem pcheck_c (l : List UInt8) (w : World) : Fc Tryz.prog 130 [.string (strY l)] w fun v w' => v = .int .i64 (checkE l) ∧ St [] w w' [] := by
  refine fc_i TB_ok Tryz.func130 rfl (by kernel_rfl) ?_
  have hS := Sf.refl w
  have he := streq_nil l
  have hz := strY_size l
  unfold checkE
  cases hl : l.isEmpty with
  | true =>
    rw [hl] at he
    repeat ((conv => whnf); first | (apply q_i; focus (intro w1 hS; (conv => whnf); first | exact ⟨rfl, rfl⟩)) | (refine nw_f hS ?_; intro b w1 hS) | refine as_i hS ?_ | refine as_i (hS.subs (List.nil_sublist _) sb9) ?_ | refine as_i (hS.subs (List.Sublist.refl _) sb9) ?_ | refine bar_f hS ?_ | (refine dr9 hS ?_; intro w1 hS) | refine br_t (by assumption) ?_ | refine br_f (by assumption) ?_)
    exact ⟨rfl, hS.nil⟩
  | false =>
    rw [hl] at he
    have hcall := fun w => has_c l w
    rw [show (l.any fun c => badC c.toNat) = bads l from rfl] at hcall
    cases hb : bads l with
    | true =>
      rw [hb] at hcall
      repeat ((conv => whnf); first | (apply q_i; focus (intro w1 hS; (conv => whnf); first | exact ⟨rfl, rfl⟩)) | (refine nw_f hS ?_; intro b w1 hS) | refine as_i hS ?_ | refine as_i (hS.subs (List.nil_sublist _) sb9) ?_ | refine as_i (hS.subs (List.Sublist.refl _) sb9) ?_ | refine bar_f hS ?_ | (refine dr9 hS ?_; intro w1 hS) | refine br_t (by assumption) ?_ | refine br_f (by assumption) ?_)
      refine fc_m (hcall _) ?_; rintro v w1 ⟨rfl, hS'⟩; replace hS := hS.call0 hS'
      repeat ((conv => whnf); first | (apply q_i; focus (intro w1 hS; (conv => whnf); first | exact ⟨rfl, rfl⟩)) | (refine nw_f hS ?_; intro b w1 hS) | refine as_i hS ?_ | refine as_i (hS.subs (List.nil_sublist _) sb9) ?_ | refine as_i (hS.subs (List.Sublist.refl _) sb9) ?_ | refine bar_f hS ?_ | (refine dr9 hS ?_; intro w1 hS) | refine br_t (by assumption) ?_ | refine br_f (by assumption) ?_)
      exact ⟨rfl, hS.nil⟩
    | false =>
      rw [hb] at hcall
      by_cases h8 : 8 < l.length
      · have g : decide ((8 : Int) < ((strY l).size : Int)) = true := decide_eq_true (by omega)
        rw [if_neg (by decide), if_pos h8]
        repeat ((conv => whnf); first | (apply q_i; focus (intro w1 hS; (conv => whnf); first | exact ⟨rfl, rfl⟩)) | (refine nw_f hS ?_; intro b w1 hS) | refine as_i hS ?_ | refine as_i (hS.subs (List.nil_sublist _) sb9) ?_ | refine as_i (hS.subs (List.Sublist.refl _) sb9) ?_ | refine bar_f hS ?_ | (refine dr9 hS ?_; intro w1 hS) | refine br_t (by assumption) ?_ | refine br_f (by assumption) ?_)
        refine fc_m (hcall _) ?_; rintro v w1 ⟨rfl, hS'⟩; replace hS := hS.call0 hS'
        repeat ((conv => whnf); first | (apply q_i; focus (intro w1 hS; (conv => whnf); first | exact ⟨rfl, rfl⟩)) | (refine nw_f hS ?_; intro b w1 hS) | refine as_i hS ?_ | refine as_i (hS.subs (List.nil_sublist _) sb9) ?_ | refine as_i (hS.subs (List.Sublist.refl _) sb9) ?_ | refine bar_f hS ?_ | (refine dr9 hS ?_; intro w1 hS) | refine br_t (by assumption) ?_ | refine br_f (by assumption) ?_)
        exact ⟨rfl, hS.nil⟩
      · have g : decide ((8 : Int) < ((strY l).size : Int)) = false := decide_eq_false (by omega)
        rw [if_neg (by decide), if_neg h8]
        repeat ((conv => whnf); first | (apply q_i; focus (intro w1 hS; (conv => whnf); first | exact ⟨rfl, rfl⟩)) | (refine nw_f hS ?_; intro b w1 hS) | refine as_i hS ?_ | refine as_i (hS.subs (List.nil_sublist _) sb9) ?_ | refine as_i (hS.subs (List.Sublist.refl _) sb9) ?_ | refine bar_f hS ?_ | (refine dr9 hS ?_; intro w1 hS) | refine br_t (by assumption) ?_ | refine br_f (by assumption) ?_)
        refine fc_m (hcall _) ?_; rintro v w1 ⟨rfl, hS'⟩; replace hS := hS.call0 hS'
        repeat ((conv => whnf); first | (apply q_i; focus (intro w1 hS; (conv => whnf); first | exact ⟨rfl, rfl⟩)) | (refine nw_f hS ?_; intro b w1 hS) | refine as_i hS ?_ | refine as_i (hS.subs (List.nil_sublist _) sb9) ?_ | refine as_i (hS.subs (List.Sublist.refl _) sb9) ?_ | refine bar_f hS ?_ | (refine dr9 hS ?_; intro w1 hS) | refine br_t (by assumption) ?_ | refine br_f (by assumption) ?_)
        exact ⟨rfl, hS.nil⟩
end Go.RV.C04

set_option maxRecDepth 20000
set_option linter.unusedVariables false
set_option linter.unusedSimpArgs false
namespace Go.RV.C04
open Go Go.Proofs Go.RowKit

theorem idxBS_c (s : ByteArray) (c : Int) (w : World) : Fc Tryz.prog 151 [.string s, .int .u8 c] w fun v w' => v = .int .i64 (Lib.indexByte s.data.toList c.toNat.toUInt8) ∧ St [] w w' [] := by
  refine ⟨SemW.of_run (a := .value (.int .i64 (Lib.indexByte s.data.toList c.toNat.toUInt8))) (w' := w) ?_ ⟨rfl, St.refl w⟩⟩
  rw [show [Value.string s, Value.int .u8 c].toArray = #[Value.string s, Value.int .u8 c] from rfl, run_callFunc_extern Tryz.func151 (by kernel_rfl) (by kernel_rfl) (by kernel_rfl) (e := Extern.BytealgIndexByte.indexByte) (by kernel_rfl), Lib.run_indexByteString]
  rfl
theorem idxB_c (s : ByteArray) (c : Int) (w : World) : Fc Tryz.prog 147 [.string s, .int .u8 c] w fun v w' => v = .int .i64 (Lib.indexByte s.data.toList c.toNat.toUInt8) ∧ St [] w w' [] := by
  refine fc_i TB_ok Tryz.func147 rfl (by kernel_rfl) ?_
  have hS := Sf.refl w
  repeat ((conv => whnf); first | (apply q_i; focus (intro w1 hS; (conv => whnf); first | exact ⟨rfl, rfl⟩)) | (refine nw_f hS ?_; intro b w1 hS) | refine as_i hS ?_ | refine as_i (hS.subs (List.nil_sublist _) sb9) ?_ | refine as_i (hS.subs (List.Sublist.refl _) sb9) ?_ | refine bar_f hS ?_ | (refine fc_m (idxBS_c _ _ _) ?_; rintro v w3 ⟨rfl, hS'⟩; replace hS := hS.call0 hS') | (refine dr9 hS ?_; intro w1 hS) | refine br_t (by assumption) ?_ | refine br_f (by assumption) ?_)
  exact ⟨rfl, hS.nil⟩
theorem idx1_c (l : List UInt8) (c : UInt8) (w : World) : Fc Tryz.prog 145 [.string (strY l), .string (strY [c])] w fun v w' => v = .int .i64 (Lib.indexByte l c) ∧ St [] w w' [] := by
  refine fc_i TB_ok Tryz.func145 rfl (by kernel_rfl) ?_
  have hS := Sf.refl w
  have hc : ((c.toNat : Int)).toNat.toUInt8 = c := by rw [Int.toNat_natCast]; simp
  have hb := fun w => idxB_c (strY l) (c.toNat : Int) w
  rw [hc] at hb
  have hq := streq_strY [c] l
  by_cases he : [c] = l
  · rw [decide_eq_true he] at hq
    repeat ((conv => whnf); first | (apply q_i; focus (intro w1 hS; (conv => whnf); first | exact ⟨rfl, rfl⟩)) | (refine nw_f hS ?_; intro b w1 hS) | refine as_i hS ?_ | refine as_i (hS.subs (List.nil_sublist _) sb9) ?_ | refine as_i (hS.subs (List.Sublist.refl _) sb9) ?_ | refine bar_f hS ?_ | (refine dr9 hS ?_; intro w1 hS) | refine br_t (by assumption) ?_ | refine br_f (by assumption) ?_)
    refine ⟨?_, hS.nil⟩
    rw [← he]
    simp [Lib.indexByte]
  · rw [decide_eq_false he] at hq
    repeat ((conv => whnf); first | (apply q_i; focus (intro w1 hS; (conv => whnf); first | exact ⟨rfl, rfl⟩ | ((refine .mk ⟨by omega, by rw [strY_size]; simp⟩ ?_); (conv => whnf); exact ⟨rfl, rfl⟩))) | (refine nw_f hS ?_; intro b w1 hS) | refine as_i hS ?_ | refine as_i (hS.subs (List.nil_sublist _) sb9) ?_ | refine as_i (hS.subs (List.Sublist.refl _) sb9) ?_ | refine bar_f hS ?_ | (refine .mk ⟨by omega, by rw [strY_size]; simp⟩ ?_) | (refine fc_m (hb _) ?_; rintro v w3 ⟨rfl, hS'⟩; replace hS := hS.call0 hS') | (refine dr9 hS ?_; intro w1 hS) | refine br_t (by assumption) ?_ | refine br_f (by assumption) ?_)
    exact ⟨rfl, hS.nil⟩
/-- a text cut at the first such byte -/
def cutP (c : UInt8) : List UInt8 → List UInt8 × List UInt8 × Bool
  | [] => ([], [], false)
  | b :: r => if b = c then ([], r, true) else (b :: (cutP c r).1, (cutP c r).2)
theorem cut_idx (c : UInt8) : ∀ l : List UInt8, (Lib.indexByte l c = -1 ∧ cutP c l = (l, [], false)) ∨ ∃ i : Nat, i < l.length ∧ Lib.indexByte l c = (i : Int) ∧ cutP c l = (l.take i, l.drop (i + 1), true)
  | [] => .inl ⟨rfl, rfl⟩
  | b :: r => by
    unfold Lib.indexByte cutP
    by_cases hb : b = c
    · subst hb
      exact .inr ⟨0, by simp, by simp, by simp⟩
    · rw [if_neg (by simpa using hb), if_neg hb]
      rcases cut_idx c r with ⟨h1, h2⟩ | ⟨i, hi, h1, h2⟩
      · left
        rw [h1, h2]
        exact ⟨rfl, rfl⟩
      · right
        refine ⟨i + 1, by simpa using hi, ?_, ?_⟩
        · rw [h1, if_neg (by simp)]
          omega
        · rw [h2]
          simp
theorem lcut_c (l : List UInt8) (c : UInt8) (hl : l.length ≤ 4611686018427387904) (w : World) : Fc Tryz.prog 143 [.string (strY l), .string (strY [c])] w fun v w' => v = .tuple #[.string (strY (cutP c l).1), .string (strY (cutP c l).2.1), .bool (cutP c l).2.2] ∧ St [] w w' [] := by
  refine fc_i TB_ok Tryz.func143 rfl (by kernel_rfl) ?_
  have hS := Sf.refl w
  have hi := fun w => idx1_c l c w
  have hz := strY_size l
  rcases cut_idx c l with ⟨h1, h2⟩ | ⟨i, hil, h1, h2⟩
  · rw [h1] at hi
    rw [h2]
    repeat ((conv => whnf); first | (apply q_i; focus (intro w1 hS; (conv => whnf); first | exact ⟨rfl, rfl⟩)) | (refine nw_f hS ?_; intro b w1 hS) | refine as_i hS ?_ | refine as_i (hS.subs (List.nil_sublist _) sb9) ?_ | refine as_i (hS.subs (List.Sublist.refl _) sb9) ?_ | refine bar_f hS ?_ | (refine fc_m (hi _) ?_; rintro v w3 ⟨rfl, hS'⟩; replace hS := hS.call0 hS') | (refine dr9 hS ?_; intro w1 hS) | refine br_t (by assumption) ?_ | refine br_f (by assumption) ?_)
    exact ⟨rfl, hS.nil⟩
  · rw [h1] at hi
    rw [h2]
    have g : decide ((0 : Int) ≤ (i : Int)) = true := decide_eq_true (by omega)
    have h1s : (strY [c]).size = 1 := strY_size [c]
    have hw : IntKind.i64.wrap ((i : Int) + ((strY [c]).size : Int)) = ((i + 1 : Nat) : Int) := by rw [h1s]; exact wi (n := l.length) hil (by omega)
    repeat ((conv => whnf); first | (apply q_i; focus (intro w1 hS; (conv => whnf); first | exact ⟨rfl, rfl⟩)) | (refine nw_f hS ?_; intro b w1 hS) | refine as_i hS ?_ | refine as_i (hS.subs (List.nil_sublist _) sb9) ?_ | refine as_i (hS.subs (List.Sublist.refl _) sb9) ?_ | refine bar_f hS ?_ | (refine fc_m (hi _) ?_; rintro v w3 ⟨rfl, hS'⟩; replace hS := hS.call0 hS') | refine br_t (by assumption) ?_ | refine br_f (by assumption) ?_)
    refine drawf (Ls := []) TB_ok rfl (by kernel_rfl) (by kernel_rfl) hS (List.nil_sublist _) (List.nil_sublist _) ?_; intro w1 hS
    repeat ((conv => whnf); first | (apply q_i; focus (intro w1 hS; (conv => whnf); first | exact ⟨rfl, rfl⟩ | ((refine .mk ⟨by omega, by omega⟩ ?_); (conv => whnf); exact ⟨rfl, rfl⟩) | ((refine .mk (by omega) ?_); (conv => whnf); exact ⟨rfl, rfl⟩) | ((refine .mk (by rw [hw]; constructor <;> omega) ?_); (conv => whnf); exact ⟨rfl, rfl⟩))) | (refine nw_f hS ?_; intro b w1 hS) | refine as_i hS ?_ | refine as_i (hS.subs (List.nil_sublist _) sb9) ?_ | refine as_i (hS.subs (List.Sublist.refl _) sb9) ?_ | refine bar_f hS ?_ | refine .mk ⟨by omega, by omega⟩ ?_ | refine .mk (by omega) ?_ | refine .mk (by rw [hw]; constructor <;> omega) ?_ | (refine dr9 hS ?_; intro w1 hS) | refine br_t (by assumption) ?_ | refine br_f (by assumption) ?_)
    refine ⟨?_, hS.nil⟩
    have e1 : (strY l).extract 0 ((i : Int)).toNat = strY (l.take i) := by rw [strY_extract, Int.toNat_natCast, List.drop_zero]
    have e2 : (strY l).extract (IntKind.i64.wrap ((i : Int) + ((strY [c]).size : Int))).toNat (strY l).size = strY (l.drop (i + 1)) := by
      rw [hw, strY_extract, Int.toNat_natCast, hz, List.take_length]
    show _ = Value.tuple #[.string (strY (l.take i)), .string (strY (l.drop (i + 1))), .bool true]
    rw [← e1, ← e2]
theorem scut_c (l : List UInt8) (c : UInt8) (hl : l.length ≤ 4611686018427387904) (w : World) : Fc Tryz.prog 137 [.string (strY l), .string (strY [c])] w fun v w' => v = .tuple #[.string (strY (cutP c l).1), .string (strY (cutP c l).2.1), .bool (cutP c l).2.2] ∧ St [] w w' [] := by
  refine fc_i TB_ok Tryz.func137 rfl (by kernel_rfl) ?_
  have hS := Sf.refl w
  repeat ((conv => whnf); first | (apply q_i; focus (intro w1 hS; (conv => whnf); first | exact ⟨rfl, rfl⟩)) | (refine nw_f hS ?_; intro b w1 hS) | refine as_i hS ?_ | refine as_i (hS.subs (List.nil_sublist _) sb9) ?_ | refine as_i (hS.subs (List.Sublist.refl _) sb9) ?_ | refine bar_f hS ?_ | (refine fc_m (lcut_c l c hl _) ?_; rintro v w3 ⟨rfl, hS'⟩; replace hS := hS.call0 hS') | (refine dr9 hS ?_; intro w1 hS) | refine br_t (by assumption) ?_ | refine br_f (by assumption) ?_)
  exact ⟨rfl, hS.nil⟩
end Go.RV.C04

set_option maxRecDepth 20000
set_option linter.unusedVariables false
set_option linter.unusedSimpArgs false
namespace Go.RV.C04
open Go Go.Proofs Go.RowKit

theorem bads_hit {l : List UInt8} {i : Nat} (h : i < l.length) (hb : badC l[i].toNat = true) : bads l = true := List.any_eq_true.2 ⟨_, List.getElem_mem h, hb⟩
theorem bads_no {l : List UInt8} (h : ∀ j (h : j < l.length), badC l[j].toNat = false) : bads l = false := by
  unfold bads
  rw [List.any_eq_false]
  intro x hx
  obtain ⟨j, hj, rfl⟩ := List.getElem_of_mem hx
  rw [h j hj]
  decide
theorem rcheck_c (l : List UInt8) (hl : l.length ≤ 4611686018427387904) (w : World) : Fc Tryz.prog 105 [.string (strY l)] w fun v w' => v = .int .i64 (checkE l) ∧ St [] w w' [] := by
  refine fc_i TB_ok Tryz.func105 rfl (by kernel_rfl) ?_
  have hS := Sf.refl w
  have hz := strY_size l
  by_cases h0 : l.length = 0
  · have g : (((strY l).size : Int) == 0) = true := by rw [hz, h0]; rfl
    have he : checkE l = 4 := by unfold checkE; rw [List.eq_nil_of_length_eq_zero h0]; rfl
    rw [he]
    repeat ((conv => whnf); first | (apply q_i; focus (intro w1 hS; (conv => whnf); first | exact ⟨rfl, rfl⟩)) | (refine nw_f hS ?_; intro b w1 hS) | refine as_i hS ?_ | refine as_i (hS.subs (List.nil_sublist _) sb9) ?_ | refine as_i (hS.subs (List.Sublist.refl _) sb9) ?_ | refine bar_f hS ?_ | (refine dr9 hS ?_; intro w1 hS) | refine br_t (by assumption) ?_ | refine br_f (by assumption) ?_)
    exact ⟨rfl, hS.nil⟩
  · have g : (((strY l).size : Int) == 0) = false := beq_eq_false_iff_ne.2 (by omega)
    have hne : l.isEmpty = false := by cases l with | nil => exact absurd rfl h0 | cons a b => rfl
    repeat ((conv => whnf); first | (apply q_i; focus (intro w1 hS; (conv => whnf); first | exact ⟨rfl, rfl⟩)) | (refine nw_f hS ?_; intro b w1 hS) | refine as_i hS ?_ | refine as_i (hS.subs (List.nil_sublist _) sb9) ?_ | refine as_i (hS.subs (List.Sublist.refl _) sb9) ?_ | refine bar_f hS ?_ | (refine dr9 hS ?_; intro w1 hS) | refine br_t (by assumption) ?_ | refine br_f (by assumption) ?_)
    refine loop_i TB_ok (fun i : Nat => [(3, .int .i64 i)]) (fun i w' => i ≤ l.length ∧ (∀ j (h : j < l.length), j < i → badC l[j].toNat = false) ∧ Sf [] w w' [] []) (fun i => l.length - i) 0 rfl ⟨Nat.zero_le _, fun j h h2 => by omega, hS⟩ ?_
    rintro i us w2 ⟨hi, hj, hS⟩
    by_cases hlt : i < l.length
    · have h1 : decide ((i : Int) < ((strY l).size : Int)) = true := decide_eq_true (by omega)
      have hsx := byteAt_strY hlt
      replace hsx : byteAt (strY l) ((i : Int)).toNat = (l[i].toNat : Int) := hsx
      obtain ⟨b1, e1⟩ : ∃ b1, decide (byteAt (strY l) ((i : Int)).toNat < 33) = b1 := ⟨_, rfl⟩
      obtain ⟨b2, e2⟩ : ∃ b2, decide (125 < byteAt (strY l) ((i : Int)).toNat) = b2 := ⟨_, rfl⟩
      obtain ⟨b3, e3⟩ : ∃ b3, (byteAt (strY l) ((i : Int)).toNat == 47) = b3 := ⟨_, rfl⟩
      have hbb : badC l[i].toNat = (b1 || (b2 || b3)) := by
        rw [← e1, ← e2, ← e3, hsx]
        unfold badC
        congr 1
        · exact decide_eq_decide.2 (by omega)
        · congr 1
          · exact decide_eq_decide.2 (by omega)
          · rw [Bool.eq_iff_iff]; simp; omega
      cases b1 with
      | true =>
        have he : checkE l = 4 := by unfold checkE; rw [bads_hit hlt hbb]; simp
        rw [he]
        repeat ((conv => whnf); first | (apply q_i; focus (intro w1 hS; (conv => whnf); first | exact ⟨rfl, rfl⟩ | ((refine .mk ⟨by omega, by omega⟩ ?_); (conv => whnf); exact ⟨rfl, rfl⟩))) | (refine nw_f hS ?_; intro b w1 hS) | refine as_i hS ?_ | refine as_i (hS.subs (List.nil_sublist _) sb9) ?_ | refine as_i (hS.subs (List.Sublist.refl _) sb9) ?_ | refine bar_f hS ?_ | refine .mk ⟨by omega, by omega⟩ ?_ | (refine dr9 hS ?_; intro w1 hS) | refine br_t (by assumption) ?_ | refine br_f (by assumption) ?_)
        exact ⟨rfl, hS.nil⟩
      | false =>
        cases b2 with
        | true =>
          have he : checkE l = 4 := by unfold checkE; rw [bads_hit hlt hbb]; simp
          rw [he]
          repeat ((conv => whnf); first | (apply q_i; focus (intro w1 hS; (conv => whnf); first | exact ⟨rfl, rfl⟩ | ((refine .mk ⟨by omega, by omega⟩ ?_); (conv => whnf); exact ⟨rfl, rfl⟩))) | (refine nw_f hS ?_; intro b w1 hS) | refine as_i hS ?_ | refine as_i (hS.subs (List.nil_sublist _) sb9) ?_ | refine as_i (hS.subs (List.Sublist.refl _) sb9) ?_ | refine bar_f hS ?_ | refine .mk ⟨by omega, by omega⟩ ?_ | (refine dr9 hS ?_; intro w1 hS) | refine br_t (by assumption) ?_ | refine br_f (by assumption) ?_)
          exact ⟨rfl, hS.nil⟩
        | false =>
          cases b3 with
          | true =>
            have he : checkE l = 4 := by unfold checkE; rw [bads_hit hlt hbb]; simp
            rw [he]
            repeat ((conv => whnf); first | (apply q_i; focus (intro w1 hS; (conv => whnf); first | exact ⟨rfl, rfl⟩ | ((refine .mk ⟨by omega, by omega⟩ ?_); (conv => whnf); exact ⟨rfl, rfl⟩))) | (refine nw_f hS ?_; intro b w1 hS) | refine as_i hS ?_ | refine as_i (hS.subs (List.nil_sublist _) sb9) ?_ | refine as_i (hS.subs (List.Sublist.refl _) sb9) ?_ | refine bar_f hS ?_ | refine .mk ⟨by omega, by omega⟩ ?_ | (refine dr9 hS ?_; intro w1 hS) | refine br_t (by assumption) ?_ | refine br_f (by assumption) ?_)
            exact ⟨rfl, hS.nil⟩
          | false =>
            repeat ((conv => whnf); first | (apply q_i; focus (intro w1 hS; (conv => whnf); first | exact ⟨rfl, rfl⟩ | ((refine .mk ⟨by omega, by omega⟩ ?_); (conv => whnf); exact ⟨rfl, rfl⟩))) | (refine nw_f hS ?_; intro b w1 hS) | refine as_i hS ?_ | refine as_i (hS.subs (List.nil_sublist _) sb9) ?_ | refine as_i (hS.subs (List.Sublist.refl _) sb9) ?_ | refine bar_f hS ?_ | refine .mk ⟨by omega, by omega⟩ ?_ | (refine dr9 hS ?_; intro w1 hS) | refine br_t (by assumption) ?_ | refine br_f (by assumption) ?_)
            refine ⟨rfl, i + 1, ?_, ⟨by omega, fun j h h2 => ?_, hS⟩, by omega⟩
            · rw [wi hlt (by omega)]
              rfl
            · by_cases e : j = i
              · subst e; exact hbb
              · exact hj j h (by omega)
    · have h1 : decide ((i : Int) < ((strY l).size : Int)) = false := decide_eq_false (by omega)
      have hb : bads l = false := bads_no fun j h => hj j h (by omega)
      unfold checkE
      rw [hne, hb]
      by_cases h8 : 8 < l.length
      · have g8 : decide ((8 : Int) < ((strY l).size : Int)) = true := decide_eq_true (by omega)
        rw [if_neg (by decide), if_pos h8]
        repeat ((conv => whnf); first | (apply q_i; focus (intro w1 hS; (conv => whnf); first | exact ⟨rfl, rfl⟩)) | (refine nw_f hS ?_; intro b w1 hS) | refine as_i hS ?_ | refine as_i (hS.subs (List.nil_sublist _) sb9) ?_ | refine as_i (hS.subs (List.Sublist.refl _) sb9) ?_ | refine bar_f hS ?_ | (refine dr9 hS ?_; intro w1 hS) | refine br_t (by assumption) ?_ | refine br_f (by assumption) ?_)
        exact ⟨rfl, hS.nil⟩
      · have g8 : decide ((8 : Int) < ((strY l).size : Int)) = false := decide_eq_false (by omega)
        rw [if_neg (by decide), if_neg h8]
        repeat ((conv => whnf); first | (apply q_i; focus (intro w1 hS; (conv => whnf); first | exact ⟨rfl, rfl⟩)) | (refine nw_f hS ?_; intro b w1 hS) | refine as_i hS ?_ | refine as_i (hS.subs (List.nil_sublist _) sb9) ?_ | refine as_i (hS.subs (List.Sublist.refl _) sb9) ?_ | refine bar_f hS ?_ | (refine dr9 hS ?_; intro w1 hS) | refine br_t (by assumption) ?_ | refine br_f (by assumption) ?_)
        exact ⟨rfl, hS.nil⟩
end Go.RV.C04

set_option maxRecDepth 20000
set_option linter.unusedVariables false
set_option linter.unusedSimpArgs false
namespace Go.RV.C04
open Go Go.Proofs Go.RowKit

def Tab10 (w : World) : Prop := Lib.TabIs Tryz.prog w "internal/strconv.uint64pow10" .u64 Lib.pow10Tab
theorem Tab10.below {w w' : World} {L : LM} (h : Tab10 w) (hS : St [] w w' L) : Tab10 w' := Lib.tabBelow_of_tabIs h w' hS.below
theorem cutP_len (c : UInt8) : ∀ l : List UInt8, (cutP c l).1.length ≤ l.length ∧ (cutP c l).2.1.length ≤ l.length
  | [] => ⟨Nat.le_refl _, Nat.le_refl _⟩
  | b :: r => by
    unfold cutP
    have := cutP_len c r
    split
    · simp
    · simp; omega
end Go.RV.C04

set_option maxRecDepth 20000
set_option linter.unusedVariables false
set_option linter.unusedSimpArgs false
namespace Go.RV.C04
open Go Go.Proofs Go.RowKit

section
variable {P : Program} {M : List Nat} {w0 w : World} {F L : LM}
/-- the function that was ranged over has returned behind a round that returned -/
theorem loopEndR_f {l : Nat} {r : Loop} {rr : Option Nat} {Q : Post} {fr : Fr} {ds : List Deferred} (hS : Sf M w0 w F L) (k : Nat) (hk : L[k]? = some (l, .loop r)) (hr : r.state = .done) (hp : r.pending = some .ret) (h : ∀ w', Sf M w0 w' F (L.set k (l, .loop { r with state := .exhausted })) → Q .ret fr ds w') : LoopEnd P rr l Q fr ds w := by
  refine ⟨r, hS.st.block (F.length + k) (hS.idx k hk), by rw [hr]; decide, ?_⟩
  have h1 := h _ (hS.putObj k hk (.loop { r with state := .exhausted }))
  split
  · rename_i e
    rw [hp] at e
    cases e
  · rename_i c e
    rw [hp] at e
    cases e
    exact .of fun n => wpIn_ret ⟨fr, ds, rfl, h1⟩
end
/-- a text at its slashes -/
def partsP : List UInt8 → List (List UInt8)
  | [] => [[]]
  | c :: r => if c = 47 then [] :: partsP r else match partsP r with
    | [] => [[c]]
    | x :: xs => (c :: x) :: xs
theorem parts_ne (l : List UInt8) : partsP l ≠ [] := by
  cases l with
  | nil => simp [partsP]
  | cons c r =>
    unfold partsP
    split
    · simp
    · split <;> simp
theorem parts_cut : ∀ l : List UInt8, partsP l = if (cutP 47 l).2.2 = true then (cutP 47 l).1 :: partsP (cutP 47 l).2.1 else [l]
  | [] => by simp [partsP, cutP]
  | c :: r => by
    have ih := parts_cut r
    rw [partsP, cutP]
    by_cases h : c = 47
    · rw [if_pos h, if_pos h]
      rfl
    · rw [if_neg h, if_neg h, ih]
      cases hb : (cutP 47 r).2.2 with
      | true => simp
      | false => simp
theorem cut_no (c : UInt8) : ∀ l : List UInt8, (cutP c l).2.2 = false → cutP c l = (l, [], false)
  | [], _ => rfl
  | b :: r, h => by
    unfold cutP at h ⊢
    split
    · rename_i hb; rw [if_pos hb] at h; cases h
    · rename_i hb
      rw [if_neg hb] at h
      rw [cut_no c r h]
theorem cut_shorter (c : UInt8) : ∀ l : List UInt8, (cutP c l).2.2 = true → (cutP c l).2.1.length < l.length
  | [], h => by cases h
  | b :: r, h => by
    unfold cutP at h ⊢
    split
    · simp
    · rename_i hb
      rw [if_neg hb] at h
      have := cut_shorter c r h
      simp only [List.length_cons]
      omega
abbrev Lst := List UInt8 → List UInt8 × Int
/-- the names of a text's pieces: the names, why there are none, and the last piece, if it was asked for -/
def goR (lst : Lst) : List (List UInt8) → List (List UInt8) → List (List UInt8) × Int × Option (List UInt8)
  | acc, [] => (acc, 0, none)
  | acc, s :: r =>
    let a := if r.isEmpty then lst s else (s, 0)
    let q := if r.isEmpty then some s else none
    if checkE a.1 ≠ 0 then ([], checkE a.1, q) else if acc.length = 4 then ([], 3, q) else if a.2 ≠ 0 then ([], a.2, q) else if r.isEmpty then (acc ++ [a.1], 0, q) else goR lst (acc ++ [a.1]) r
def readT (most : Nat) (lst : Lst) (p : List UInt8) : List (List UInt8) × Int × Option (List UInt8) :=
  if most < p.length then ([], 3, none) else match p with
    | [] => ([], 4, none)
    | c :: q => if c ≠ 47 then ([], 4, none) else if q.isEmpty then ([], 0, none) else goR lst [] (partsP q)
def encT (s : List UInt8) : List Value := [.string (strY s)]
theorem encT_len (s : List UInt8) : (encT s).length = 1 := rfl
theorem elStr : ElemOk Tryz.prog TB 135 9 1 16 := ⟨rfl, ⟨_, _, inf9, rfl, rfl, rfl, rfl⟩, by decide⟩
/-- a function that tells the last piece's name; of what was there it may change Lx, which then reads as9 Ly -/
def LastOk (f : Value) (Lx : LM) (Ly : List UInt8 → LM) (lst : Lst) (w : World) : Prop := ∀ s w', s.length ≤ 44 → St (keys Lx) w w' Lx →
  Cv Tryz.prog f [.string (strY s)] w' fun v w'' => v = .tuple #[.string (strY (lst s).1), .int .i64 (lst s).2] ∧ St (keys Lx) w' w'' (Ly s)
def cbL (Lx : LM) (Ly : List UInt8 → LM) : Option (List UInt8) → LM
  | none => Lx
  | some s => Ly s
theorem pieces_c (p : List UInt8) (w : World) : Fc Tryz.prog 129 [.string (strY p)] w fun v w' => ∃ b, v = .func (.func 136) #[] #[.pointer (some ⟨b, 0, none⟩)] ∧ St [] w w' [(b, .cells #[.string (strY p)] 9 (0, 0))] := by
  refine fc_i TB_ok Tryz.func129 rfl (by kernel_rfl) ?_
  have hS := Sf.refl w
  repeat ((conv => whnf); first | (apply q_i; focus (intro w1 hS; (conv => whnf); first | exact ⟨rfl, rfl⟩ | ((first | refine ld_f hS 0 rfl rfl ?_ | refine ldA_f hS 0 rfl rfl ?_); (conv => whnf); exact ⟨rfl, rfl⟩))) | (refine nw_f hS ?_; intro b w1 hS) | refine as_i hS ?_ | refine as_i (hS.subs (List.nil_sublist _) sb9) ?_ | refine as_i (hS.subs (List.Sublist.refl _) sb9) ?_ | refine bar_f hS ?_ | refine ld_f hS 0 rfl rfl ?_ | refine ldA_f hS 0 rfl rfl ?_ | ((first | refine stN_f hS 0 rfl (lb9 rfl) rfl rfl ?_ | refine stM_f hS 0 rfl (lb9 rfl) rfl ?_); (conv => whnf); intro w1 hS) | (refine dr9 hS ?_; intro w1 hS) | refine br_t (by assumption) ?_ | refine br_f (by assumption) ?_)
  exact ⟨_, rfl, hS.sub (List.Sublist.refl _)⟩
set_option maxHeartbeats 4000000 in
theorem read_c (p : List UInt8) (hp : p.length ≤ 4611686018427387904) (most : Nat) (hm : most ≤ 44) (fn : Fn) (fi ca : Array Value) (Lx : LM) (Ly : List UInt8 → LM) (lst : Lst) (w : World) (hS0 : St (keys Lx) w w Lx) (hT : LastOk (.func fn fi ca) Lx Ly lst w) :
    Fc Tryz.prog 119 [.string (strY p), .int .i64 most, .func fn fi ca] w fun v w' => ∃ A c Lv, v = .tuple #[.slice A (readT most lst p).1.length c, .int .i64 (readT most lst p).2.1] ∧
      Sl 9 1 (.slice A (readT most lst p).1.length c) (readT most lst p).1.length (flat encT (readT most lst p).1) Lv ∧ St (keys Lx) w w' (Lv ++ cbL Lx Ly (readT most lst p).2.2) := by
  refine fc_i TB_ok Tryz.func119 rfl (by kernel_rfl) ?_
  have hS : Sf (keys Lx) w w (Lx ++ []) [] := ⟨by simpa using hS0⟩
  have hz := strY_size p
  by_cases hlen : most < p.length
  · have g0 : decide ((most : Int) < ((strY p).size : Int)) = true := decide_eq_true (by omega)
    have hr : readT most lst p = ([], 3, none) := by unfold readT; rw [if_pos hlen]
    rw [hr]
    repeat ((conv => whnf); first | (apply q_i; focus (intro w1 hS; (conv => whnf); first | exact ⟨rfl, rfl⟩ | ((first | refine ld_f hS 0 rfl rfl ?_ | refine ld_f hS 1 rfl rfl ?_ | refine ld_f hS 2 rfl rfl ?_ | refine ldA_f hS 0 rfl rfl ?_ | refine ldA_f hS 1 rfl rfl ?_ | refine ldA_f hS 2 rfl rfl ?_); (conv => whnf); exact ⟨rfl, rfl⟩))) | (refine nw_f hS ?_; intro b w1 hS) | refine as_i hS ?_ | refine as_i (hS.subs (List.nil_sublist _) sb9) ?_ | refine as_i (hS.subs (List.Sublist.refl _) sb9) ?_ | refine bar_f hS ?_ | refine ld_f hS 0 rfl rfl ?_ | refine ld_f hS 1 rfl rfl ?_ | refine ld_f hS 2 rfl rfl ?_ | refine ldA_f hS 0 rfl rfl ?_ | refine ldA_f hS 1 rfl rfl ?_ | refine ldA_f hS 2 rfl rfl ?_ | ((first | refine stN_f hS 0 rfl (lb9 rfl) rfl rfl ?_ | refine stN_f hS 1 rfl (lb9 rfl) rfl rfl ?_ | refine stN_f hS 2 rfl (lb9 rfl) rfl rfl ?_ | refine stM_f hS 0 rfl (lb9 rfl) rfl ?_ | refine stM_f hS 1 rfl (lb9 rfl) rfl ?_ | refine stM_f hS 2 rfl (lb9 rfl) rfl ?_); (conv => whnf); intro w1 hS) | (refine dr9 hS ?_; intro w1 hS) | refine br_t (by assumption) ?_ | refine br_f (by assumption) ?_)
    exact ⟨none, 0, [], rfl, .nil, by simpa [cbL] using hS.fr (List.Sublist.refl _)⟩
  have g0 : decide ((most : Int) < ((strY p).size : Int)) = false := decide_eq_false (by omega)
  cases p with
  | nil =>
    have hr : readT most lst [] = ([], 4, none) := by unfold readT; rw [if_neg hlen]
    have g1 : streq (strY []) ⟨#[]⟩ = true := streq_nil []
    rw [hr]
    repeat ((conv => whnf); first | (apply q_i; focus (intro w1 hS; (conv => whnf); first | exact ⟨rfl, rfl⟩ | ((first | refine ld_f hS 0 rfl rfl ?_ | refine ld_f hS 1 rfl rfl ?_ | refine ld_f hS 2 rfl rfl ?_ | refine ldA_f hS 0 rfl rfl ?_ | refine ldA_f hS 1 rfl rfl ?_ | refine ldA_f hS 2 rfl rfl ?_); (conv => whnf); exact ⟨rfl, rfl⟩))) | (refine nw_f hS ?_; intro b w1 hS) | refine as_i hS ?_ | refine as_i (hS.subs (List.nil_sublist _) sb9) ?_ | refine as_i (hS.subs (List.Sublist.refl _) sb9) ?_ | refine bar_f hS ?_ | refine ld_f hS 0 rfl rfl ?_ | refine ld_f hS 1 rfl rfl ?_ | refine ld_f hS 2 rfl rfl ?_ | refine ldA_f hS 0 rfl rfl ?_ | refine ldA_f hS 1 rfl rfl ?_ | refine ldA_f hS 2 rfl rfl ?_ | ((first | refine stN_f hS 0 rfl (lb9 rfl) rfl rfl ?_ | refine stN_f hS 1 rfl (lb9 rfl) rfl rfl ?_ | refine stN_f hS 2 rfl (lb9 rfl) rfl rfl ?_ | refine stM_f hS 0 rfl (lb9 rfl) rfl ?_ | refine stM_f hS 1 rfl (lb9 rfl) rfl ?_ | refine stM_f hS 2 rfl (lb9 rfl) rfl ?_); (conv => whnf); intro w1 hS) | (refine dr9 hS ?_; intro w1 hS) | refine br_t (by assumption) ?_ | refine br_f (by assumption) ?_)
    exact ⟨none, 0, [], rfl, .nil, by simpa [cbL] using hS.fr (List.Sublist.refl _)⟩
  | cons c0 q =>
  have g1 : streq (strY (c0 :: q)) ⟨#[]⟩ = false := streq_nil (c0 :: q)
  have hb : byteAt (strY (c0 :: q)) 0 = (c0.toNat : Int) := byteAt_strY (l := c0 :: q) (i := 0) (by simp)
  by_cases hc : c0 = 47
  case neg =>
    have g2 : (byteAt (strY (c0 :: q)) 0 != 47) = true := by
      rw [hb, bne_iff_ne]
      intro h
      exact hc (UInt8.toNat_inj.1 (by show c0.toNat = 47; omega))
    have hr : readT most lst (c0 :: q) = ([], 4, none) := by unfold readT; rw [if_neg hlen]; simp [hc]
    rw [hr]
    repeat ((conv => whnf); first | (apply q_i; focus (intro w1 hS; (conv => whnf); first | exact ⟨rfl, rfl⟩ | ((first | refine ld_f hS 0 rfl rfl ?_ | refine ld_f hS 1 rfl rfl ?_ | refine ld_f hS 2 rfl rfl ?_ | refine ldA_f hS 0 rfl rfl ?_ | refine ldA_f hS 1 rfl rfl ?_ | refine ldA_f hS 2 rfl rfl ?_); (conv => whnf); exact ⟨rfl, rfl⟩) | ((refine .mk ⟨by omega, by rw [hz]; simp⟩ ?_); (conv => whnf); exact ⟨rfl, rfl⟩))) | (refine nw_f hS ?_; intro b w1 hS) | refine as_i hS ?_ | refine as_i (hS.subs (List.nil_sublist _) sb9) ?_ | refine as_i (hS.subs (List.Sublist.refl _) sb9) ?_ | refine bar_f hS ?_ | refine ld_f hS 0 rfl rfl ?_ | refine ld_f hS 1 rfl rfl ?_ | refine ld_f hS 2 rfl rfl ?_ | refine ldA_f hS 0 rfl rfl ?_ | refine ldA_f hS 1 rfl rfl ?_ | refine ldA_f hS 2 rfl rfl ?_ | ((first | refine stN_f hS 0 rfl (lb9 rfl) rfl rfl ?_ | refine stN_f hS 1 rfl (lb9 rfl) rfl rfl ?_ | refine stN_f hS 2 rfl (lb9 rfl) rfl rfl ?_ | refine stM_f hS 0 rfl (lb9 rfl) rfl ?_ | refine stM_f hS 1 rfl (lb9 rfl) rfl ?_ | refine stM_f hS 2 rfl (lb9 rfl) rfl ?_); (conv => whnf); intro w1 hS) | (refine .mk ⟨by omega, by rw [hz]; simp⟩ ?_) | (refine dr9 hS ?_; intro w1 hS) | refine br_t (by assumption) ?_ | refine br_f (by assumption) ?_)
    exact ⟨none, 0, [], rfl, .nil, by simpa [cbL] using hS.fr (List.Sublist.refl _)⟩
  subst hc
  have g2 : (byteAt (strY (47 :: q)) 0 != 47) = false := by rw [hb]; rfl
  obtain ⟨T, hTT⟩ : ∃ T, T = readT most lst (47 :: q) := ⟨_, rfl⟩
  have hTq : T = if q.isEmpty then ([], 0, none) else goR lst [] (partsP q) := by rw [hTT]; unfold readT; rw [if_neg hlen]; simp
  rw [← hTT]
  clear hTT
  repeat ((conv => whnf); first | (apply q_i; focus (intro w1 hS; (conv => whnf); first | exact ⟨rfl, rfl⟩ | ((first | refine ld_f hS 0 rfl rfl ?_ | refine ld_f hS 1 rfl rfl ?_ | refine ld_f hS 2 rfl rfl ?_ | refine ldA_f hS 0 rfl rfl ?_ | refine ldA_f hS 1 rfl rfl ?_ | refine ldA_f hS 2 rfl rfl ?_); (conv => whnf); exact ⟨rfl, rfl⟩) | ((refine .mk ⟨by omega, by rw [hz]; simp⟩ ?_); (conv => whnf); exact ⟨rfl, rfl⟩))) | (refine nw_f hS ?_; intro b w1 hS) | refine as_i hS ?_ | refine as_i (hS.subs (List.nil_sublist _) sb9) ?_ | refine as_i (hS.subs (List.Sublist.refl _) sb9) ?_ | refine bar_f hS ?_ | refine ld_f hS 0 rfl rfl ?_ | refine ld_f hS 1 rfl rfl ?_ | refine ld_f hS 2 rfl rfl ?_ | refine ldA_f hS 0 rfl rfl ?_ | refine ldA_f hS 1 rfl rfl ?_ | refine ldA_f hS 2 rfl rfl ?_ | ((first | refine stN_f hS 0 rfl (lb9 rfl) rfl rfl ?_ | refine stN_f hS 1 rfl (lb9 rfl) rfl rfl ?_ | refine stN_f hS 2 rfl (lb9 rfl) rfl rfl ?_ | refine stM_f hS 0 rfl (lb9 rfl) rfl ?_ | refine stM_f hS 1 rfl (lb9 rfl) rfl ?_ | refine stM_f hS 2 rfl (lb9 rfl) rfl ?_); (conv => whnf); intro w1 hS) | (refine .mk ⟨by omega, by rw [hz]; simp⟩ ?_) | (refine dr9 hS ?_; intro w1 hS) | refine br_t (by assumption) ?_ | refine br_f (by assumption) ?_)
  refine fc_m (pieces_c _ _) ?_
  rintro v w1 ⟨bx, rfl, hS'⟩
  replace hS := hS.callH hS'
  repeat ((conv => whnf); first | (apply q_i; focus (intro w1 hS; (conv => whnf); first | exact ⟨rfl, rfl⟩ | ((first | refine ld_f hS 0 rfl rfl ?_ | refine ld_f hS 1 rfl rfl ?_ | refine ld_f hS 2 rfl rfl ?_ | refine ld_f hS 3 rfl rfl ?_ | refine ldA_f hS 0 rfl rfl ?_ | refine ldA_f hS 1 rfl rfl ?_ | refine ldA_f hS 2 rfl rfl ?_ | refine ldA_f hS 3 rfl rfl ?_); (conv => whnf); exact ⟨rfl, rfl⟩))) | (refine nw_f hS ?_; intro b w1 hS) | refine as_i hS ?_ | refine as_i (hS.subs (List.nil_sublist _) sb9) ?_ | refine as_i (hS.subs (List.Sublist.refl _) sb9) ?_ | refine bar_f hS ?_ | refine ld_f hS 0 rfl rfl ?_ | refine ld_f hS 1 rfl rfl ?_ | refine ld_f hS 2 rfl rfl ?_ | refine ld_f hS 3 rfl rfl ?_ | refine ldA_f hS 0 rfl rfl ?_ | refine ldA_f hS 1 rfl rfl ?_ | refine ldA_f hS 2 rfl rfl ?_ | refine ldA_f hS 3 rfl rfl ?_ | ((first | refine stN_f hS 0 rfl (lb9 rfl) rfl rfl ?_ | refine stN_f hS 1 rfl (lb9 rfl) rfl rfl ?_ | refine stN_f hS 2 rfl (lb9 rfl) rfl rfl ?_ | refine stN_f hS 3 rfl (lb9 rfl) rfl rfl ?_ | refine stM_f hS 0 rfl (lb9 rfl) rfl ?_ | refine stM_f hS 1 rfl (lb9 rfl) rfl ?_ | refine stM_f hS 2 rfl (lb9 rfl) rfl ?_ | refine stM_f hS 3 rfl (lb9 rfl) rfl ?_); (conv => whnf); intro w1 hS) | (refine dr9 hS ?_; intro w1 hS) | refine br_t (by assumption) ?_ | refine br_f (by assumption) ?_)
  refine range_i rfl Tryz.func136 rfl (by kernel_rfl) hS ?_
  intro fi2 bd l w3 hS
  refine fc_i TB_ok Tryz.func136 rfl (by kernel_rfl) ?_
  have g3 : decide ((1 : Int) < ((strY (47 :: q)).size : Int)) = !q.isEmpty := by
    rw [hz]
    cases q <;> simp
    omega
  have hql : q.length ≤ 44 := by simp at hlen; omega
  repeat ((conv => whnf); first | (apply q_i; focus (intro w1 hS; (conv => whnf); first | exact ⟨rfl, rfl⟩ | ((first | refine ld_f hS 0 rfl rfl ?_ | refine ld_f hS 1 rfl rfl ?_ | refine ld_f hS 2 rfl rfl ?_ | refine ld_f hS 3 rfl rfl ?_ | refine ld_f hS 4 rfl rfl ?_ | refine ld_f hS 5 rfl rfl ?_ | refine ldA_f hS 0 rfl rfl ?_ | refine ldA_f hS 1 rfl rfl ?_ | refine ldA_f hS 2 rfl rfl ?_ | refine ldA_f hS 3 rfl rfl ?_ | refine ldA_f hS 4 rfl rfl ?_ | refine ldA_f hS 5 rfl rfl ?_); (conv => whnf); exact ⟨rfl, rfl⟩))) | (refine nw_f hS ?_; intro b w1 hS) | refine as_i hS ?_ | refine as_i (hS.subs (List.nil_sublist _) sb9) ?_ | refine as_i (hS.subs (List.Sublist.refl _) sb9) ?_ | refine bar_f hS ?_ | refine ld_f hS 0 rfl rfl ?_ | refine ld_f hS 1 rfl rfl ?_ | refine ld_f hS 2 rfl rfl ?_ | refine ld_f hS 3 rfl rfl ?_ | refine ld_f hS 4 rfl rfl ?_ | refine ld_f hS 5 rfl rfl ?_ | refine ldA_f hS 0 rfl rfl ?_ | refine ldA_f hS 1 rfl rfl ?_ | refine ldA_f hS 2 rfl rfl ?_ | refine ldA_f hS 3 rfl rfl ?_ | refine ldA_f hS 4 rfl rfl ?_ | refine ldA_f hS 5 rfl rfl ?_ | ((first | refine stN_f hS 0 rfl (lb9 rfl) rfl rfl ?_ | refine stN_f hS 1 rfl (lb9 rfl) rfl rfl ?_ | refine stN_f hS 2 rfl (lb9 rfl) rfl rfl ?_ | refine stN_f hS 3 rfl (lb9 rfl) rfl rfl ?_ | refine stN_f hS 4 rfl (lb9 rfl) rfl rfl ?_ | refine stN_f hS 5 rfl (lb9 rfl) rfl rfl ?_ | refine stM_f hS 0 rfl (lb9 rfl) rfl ?_ | refine stM_f hS 1 rfl (lb9 rfl) rfl ?_ | refine stM_f hS 2 rfl (lb9 rfl) rfl ?_ | refine stM_f hS 3 rfl (lb9 rfl) rfl ?_ | refine stM_f hS 4 rfl (lb9 rfl) rfl ?_ | refine stM_f hS 5 rfl (lb9 rfl) rfl ?_); (conv => whnf); intro w1 hS) | (refine dr9 hS ?_; intro w1 hS) | refine br_t (by assumption) ?_ | refine br_f (by assumption) ?_)
  replace hS : Sf (keys Lx) w _ ([] ++ (cbL Lx Ly none ++ [])) _ := hS
  refine loop_i TB_ok (fun t : List (List UInt8) × List UInt8 × Bool × Option (List UInt8) => [(3, .bool t.2.2.1)]) (fun t w' => t.2.1.length ≤ 44 ∧ t.1.length ≤ 4 ∧ (t.2.2.1 = true → t.2.2.2 = none ∧ goR lst t.1 (partsP t.2.1) = T) ∧ (t.2.2.1 = false → T = (t.1, 0, t.2.2.2)) ∧
    ∃ A c Lo e0, e0 = (0 : Int) ∧ Sl 9 1 (.slice A t.1.length c) t.1.length (flat encT t.1) Lo ∧ Sf (keys Lx) w w' (Lo ++ (cbL Lx Ly t.2.2.2 ++ [])) [_, _, (bx, .cells #[.string (strY (47 :: t.2.1))] 9 (0, 0)), (_, .cells #[.int .i64 e0] 24 (0, 0)), (_, .cells #[.slice A t.1.length c] 135 (0, 0)), _]) (fun t => t.2.1.length + t.2.2.1.toNat) ([], q, decide ((1 : Int) < ((strY (47 :: q)).size : Int)), none) rfl ⟨hql, Nat.zero_le _, ?_, ?_, none, 0, [], 0, rfl, .nil, hS⟩ ?_
  · intro h
    have h : decide ((1 : Int) < ((strY (47 :: q)).size : Int)) = true := h
    refine ⟨rfl, ?_⟩
    rw [hTq, if_neg (by rw [h] at g3; simpa using g3)]
  · intro h
    have h : decide ((1 : Int) < ((strY (47 :: q)).size : Int)) = false := h
    rw [hTq, if_pos (by rw [h] at g3; simpa using g3)]
  rintro ⟨acc, qq, more, cl⟩ us w4 ⟨hqq, hacc, hI1, hI2, A, c, Lo, e0, he0, hv, hS⟩
  simp only at hqq hacc hI1 hI2 hv hS
  cases more with
  | false =>
    have hT2 := hI2 rfl
    repeat ((conv => whnf); first | (apply q_i; focus (intro w1 hS; (conv => whnf); first | exact ⟨rfl, rfl⟩ | ((first | refine ld_f hS 0 rfl rfl ?_ | refine ld_f hS 1 rfl rfl ?_ | refine ld_f hS 2 rfl rfl ?_ | refine ld_f hS 3 rfl rfl ?_ | refine ld_f hS 4 rfl rfl ?_ | refine ld_f hS 5 rfl rfl ?_ | refine ldA_f hS 0 rfl rfl ?_ | refine ldA_f hS 1 rfl rfl ?_ | refine ldA_f hS 2 rfl rfl ?_ | refine ldA_f hS 3 rfl rfl ?_ | refine ldA_f hS 4 rfl rfl ?_ | refine ldA_f hS 5 rfl rfl ?_); (conv => whnf); exact ⟨rfl, rfl⟩))) | (refine nw_f hS ?_; intro b w1 hS) | refine as_i hS ?_ | refine as_i (hS.subs (List.nil_sublist _) sb9) ?_ | refine as_i (hS.subs (List.Sublist.refl _) sb9) ?_ | refine bar_f hS ?_ | refine ld_f hS 0 rfl rfl ?_ | refine ld_f hS 1 rfl rfl ?_ | refine ld_f hS 2 rfl rfl ?_ | refine ld_f hS 3 rfl rfl ?_ | refine ld_f hS 4 rfl rfl ?_ | refine ld_f hS 5 rfl rfl ?_ | refine ldA_f hS 0 rfl rfl ?_ | refine ldA_f hS 1 rfl rfl ?_ | refine ldA_f hS 2 rfl rfl ?_ | refine ldA_f hS 3 rfl rfl ?_ | refine ldA_f hS 4 rfl rfl ?_ | refine ldA_f hS 5 rfl rfl ?_ | ((first | refine stN_f hS 0 rfl (lb9 rfl) rfl rfl ?_ | refine stN_f hS 1 rfl (lb9 rfl) rfl rfl ?_ | refine stN_f hS 2 rfl (lb9 rfl) rfl rfl ?_ | refine stN_f hS 3 rfl (lb9 rfl) rfl rfl ?_ | refine stN_f hS 4 rfl (lb9 rfl) rfl rfl ?_ | refine stN_f hS 5 rfl (lb9 rfl) rfl rfl ?_ | refine stM_f hS 0 rfl (lb9 rfl) rfl ?_ | refine stM_f hS 1 rfl (lb9 rfl) rfl ?_ | refine stM_f hS 2 rfl (lb9 rfl) rfl ?_ | refine stM_f hS 3 rfl (lb9 rfl) rfl ?_ | refine stM_f hS 4 rfl (lb9 rfl) rfl ?_ | refine stM_f hS 5 rfl (lb9 rfl) rfl ?_); (conv => whnf); intro w1 hS) | (refine dr9 hS ?_; intro w1 hS) | refine br_t (by assumption) ?_ | refine br_f (by assumption) ?_)
    refine loopEnd_f hS 0 rfl rfl rfl ?_
    (conv => whnf)
    intro w5 hS
    repeat ((conv => whnf); first | (apply q_i; focus (intro w1 hS; (conv => whnf); first | exact ⟨rfl, rfl⟩ | ((first | refine ld_f hS 0 rfl rfl ?_ | refine ld_f hS 1 rfl rfl ?_ | refine ld_f hS 2 rfl rfl ?_ | refine ld_f hS 3 rfl rfl ?_ | refine ld_f hS 4 rfl rfl ?_ | refine ld_f hS 5 rfl rfl ?_ | refine ldA_f hS 0 rfl rfl ?_ | refine ldA_f hS 1 rfl rfl ?_ | refine ldA_f hS 2 rfl rfl ?_ | refine ldA_f hS 3 rfl rfl ?_ | refine ldA_f hS 4 rfl rfl ?_ | refine ldA_f hS 5 rfl rfl ?_); (conv => whnf); exact ⟨rfl, rfl⟩))) | (refine nw_f hS ?_; intro b w1 hS) | refine as_i hS ?_ | refine as_i (hS.subs (List.nil_sublist _) sb9) ?_ | refine as_i (hS.subs (List.Sublist.refl _) sb9) ?_ | refine bar_f hS ?_ | refine ld_f hS 0 rfl rfl ?_ | refine ld_f hS 1 rfl rfl ?_ | refine ld_f hS 2 rfl rfl ?_ | refine ld_f hS 3 rfl rfl ?_ | refine ld_f hS 4 rfl rfl ?_ | refine ld_f hS 5 rfl rfl ?_ | refine ldA_f hS 0 rfl rfl ?_ | refine ldA_f hS 1 rfl rfl ?_ | refine ldA_f hS 2 rfl rfl ?_ | refine ldA_f hS 3 rfl rfl ?_ | refine ldA_f hS 4 rfl rfl ?_ | refine ldA_f hS 5 rfl rfl ?_ | ((first | refine stN_f hS 0 rfl (lb9 rfl) rfl rfl ?_ | refine stN_f hS 1 rfl (lb9 rfl) rfl rfl ?_ | refine stN_f hS 2 rfl (lb9 rfl) rfl rfl ?_ | refine stN_f hS 3 rfl (lb9 rfl) rfl rfl ?_ | refine stN_f hS 4 rfl (lb9 rfl) rfl rfl ?_ | refine stN_f hS 5 rfl (lb9 rfl) rfl rfl ?_ | refine stM_f hS 0 rfl (lb9 rfl) rfl ?_ | refine stM_f hS 1 rfl (lb9 rfl) rfl ?_ | refine stM_f hS 2 rfl (lb9 rfl) rfl ?_ | refine stM_f hS 3 rfl (lb9 rfl) rfl ?_ | refine stM_f hS 4 rfl (lb9 rfl) rfl ?_ | refine stM_f hS 5 rfl (lb9 rfl) rfl ?_); (conv => whnf); intro w1 hS) | (refine dr9 hS ?_; intro w1 hS) | refine br_t (by assumption) ?_ | refine br_f (by assumption) ?_)
    refine take_f hS 1 rfl ?_
    (conv => whnf)
    intro w6 hS
    repeat ((conv => whnf); first | (apply q_i; focus (intro w1 hS; (conv => whnf); first | exact ⟨rfl, rfl⟩ | ((first | refine ld_f hS 0 rfl rfl ?_ | refine ld_f hS 1 rfl rfl ?_ | refine ld_f hS 2 rfl rfl ?_ | refine ld_f hS 3 rfl rfl ?_ | refine ld_f hS 4 rfl rfl ?_ | refine ld_f hS 5 rfl rfl ?_ | refine ldA_f hS 0 rfl rfl ?_ | refine ldA_f hS 1 rfl rfl ?_ | refine ldA_f hS 2 rfl rfl ?_ | refine ldA_f hS 3 rfl rfl ?_ | refine ldA_f hS 4 rfl rfl ?_ | refine ldA_f hS 5 rfl rfl ?_); (conv => whnf); exact ⟨rfl, rfl⟩))) | (refine nw_f hS ?_; intro b w1 hS) | refine as_i hS ?_ | refine as_i (hS.subs (List.nil_sublist _) sb9) ?_ | refine as_i (hS.subs (List.Sublist.refl _) sb9) ?_ | refine bar_f hS ?_ | refine ld_f hS 0 rfl rfl ?_ | refine ld_f hS 1 rfl rfl ?_ | refine ld_f hS 2 rfl rfl ?_ | refine ld_f hS 3 rfl rfl ?_ | refine ld_f hS 4 rfl rfl ?_ | refine ld_f hS 5 rfl rfl ?_ | refine ldA_f hS 0 rfl rfl ?_ | refine ldA_f hS 1 rfl rfl ?_ | refine ldA_f hS 2 rfl rfl ?_ | refine ldA_f hS 3 rfl rfl ?_ | refine ldA_f hS 4 rfl rfl ?_ | refine ldA_f hS 5 rfl rfl ?_ | ((first | refine stN_f hS 0 rfl (lb9 rfl) rfl rfl ?_ | refine stN_f hS 1 rfl (lb9 rfl) rfl rfl ?_ | refine stN_f hS 2 rfl (lb9 rfl) rfl rfl ?_ | refine stN_f hS 3 rfl (lb9 rfl) rfl rfl ?_ | refine stN_f hS 4 rfl (lb9 rfl) rfl rfl ?_ | refine stN_f hS 5 rfl (lb9 rfl) rfl rfl ?_ | refine stM_f hS 0 rfl (lb9 rfl) rfl ?_ | refine stM_f hS 1 rfl (lb9 rfl) rfl ?_ | refine stM_f hS 2 rfl (lb9 rfl) rfl ?_ | refine stM_f hS 3 rfl (lb9 rfl) rfl ?_ | refine stM_f hS 4 rfl (lb9 rfl) rfl ?_ | refine stM_f hS 5 rfl (lb9 rfl) rfl ?_); (conv => whnf); intro w1 hS) | (refine dr9 hS ?_; intro w1 hS) | refine br_t (by assumption) ?_ | refine br_f (by assumption) ?_)
    rw [hT2]
    exact ⟨A, c, Lo, rfl, hv, by simpa using hS.fr (List.Sublist.refl _)⟩
  | true =>
    obtain ⟨hcl0, hG⟩ := hI1 rfl
    clear hI1 hI2
    have hcn := cut_no 47 qq
    have hcs := cut_shorter 47 qq
    have hcl := cutP_len 47 qq
    have hpc := parts_cut qq
    have e1 : (strY (47 :: qq)).extract 1 (strY (47 :: qq)).size = strY qq := by rw [strY_extract, strY_size, List.take_length]; rfl
    have hcut := fun w => scut_c qq 47 (by omega) w
    rw [← e1] at hcut
    have hzq : (strY (47 :: qq)).size = qq.length + 1 := by rw [strY_size]; simp
    generalize cutP 47 qq = C at *
    obtain ⟨s1, s2, f⟩ := C
    simp only at hcn hcs hcl hpc
    have hadd : (⟨#[47]⟩ : ByteArray).size + (strY s2).size ≤ 9223372036854775807 := by
      rw [strY_size]
      show 1 + s2.length ≤ _
      omega
    have hcat : (⟨#[47]⟩ : ByteArray) ++ strY s2 = strY (47 :: s2) := strY_append [47] s2
    repeat ((conv => whnf); first | (apply q_i; focus (intro w1 hS; (conv => whnf); first | exact ⟨rfl, rfl⟩ | ((first | refine ld_f hS 0 rfl rfl ?_ | refine ld_f hS 1 rfl rfl ?_ | refine ld_f hS 2 rfl rfl ?_ | refine ld_f hS 3 rfl rfl ?_ | refine ld_f hS 4 rfl rfl ?_ | refine ld_f hS 5 rfl rfl ?_ | refine ldA_f hS 0 rfl rfl ?_ | refine ldA_f hS 1 rfl rfl ?_ | refine ldA_f hS 2 rfl rfl ?_ | refine ldA_f hS 3 rfl rfl ?_ | refine ldA_f hS 4 rfl rfl ?_ | refine ldA_f hS 5 rfl rfl ?_); (conv => whnf); exact ⟨rfl, rfl⟩) | ((refine .mk ⟨by omega, by omega⟩ ?_); (conv => whnf); exact ⟨rfl, rfl⟩) | ((refine .mk hadd ?_); (conv => whnf); exact ⟨rfl, rfl⟩))) | (refine nw_f hS ?_; intro b w1 hS) | refine as_i hS ?_ | refine as_i (hS.subs (List.nil_sublist _) sb9) ?_ | refine as_i (hS.subs (List.Sublist.refl _) sb9) ?_ | refine bar_f hS ?_ | refine ld_f hS 0 rfl rfl ?_ | refine ld_f hS 1 rfl rfl ?_ | refine ld_f hS 2 rfl rfl ?_ | refine ld_f hS 3 rfl rfl ?_ | refine ld_f hS 4 rfl rfl ?_ | refine ld_f hS 5 rfl rfl ?_ | refine ldA_f hS 0 rfl rfl ?_ | refine ldA_f hS 1 rfl rfl ?_ | refine ldA_f hS 2 rfl rfl ?_ | refine ldA_f hS 3 rfl rfl ?_ | refine ldA_f hS 4 rfl rfl ?_ | refine ldA_f hS 5 rfl rfl ?_ | ((first | refine stN_f hS 0 rfl (lb9 rfl) rfl rfl ?_ | refine stN_f hS 1 rfl (lb9 rfl) rfl rfl ?_ | refine stN_f hS 2 rfl (lb9 rfl) rfl rfl ?_ | refine stN_f hS 3 rfl (lb9 rfl) rfl rfl ?_ | refine stN_f hS 4 rfl (lb9 rfl) rfl rfl ?_ | refine stN_f hS 5 rfl (lb9 rfl) rfl rfl ?_ | refine stM_f hS 0 rfl (lb9 rfl) rfl ?_ | refine stM_f hS 1 rfl (lb9 rfl) rfl ?_ | refine stM_f hS 2 rfl (lb9 rfl) rfl ?_ | refine stM_f hS 3 rfl (lb9 rfl) rfl ?_ | refine stM_f hS 4 rfl (lb9 rfl) rfl ?_ | refine stM_f hS 5 rfl (lb9 rfl) rfl ?_); (conv => whnf); intro w1 hS) | refine .mk ⟨by omega, by omega⟩ ?_ | (refine fc_m (hcut _) ?_; rintro v w3 ⟨rfl, hS'⟩; replace hS := hS.call0 hS') | refine .mk hadd ?_ | (refine dr9 hS ?_; intro w1 hS) | refine br_t (by assumption) ?_ | refine br_f (by assumption) ?_)
    rw [hcat] at hS
    refine yield2_i TB_ok (hS.obj 0 rfl) rfl ?_
    have hS1 := hS
    clear hS
    cases f
    case' true =>
      rw [if_pos rfl] at hpc
      rw [hpc] at hG
      have hne : (partsP s2).isEmpty = false := by simpa [List.isEmpty_iff] using parts_ne s2
      have hT3 : T = if checkE s1 ≠ 0 then ([], checkE s1, cl) else if acc.length = 4 then ([], 3, cl) else if e0 ≠ 0 then ([], e0, cl) else goR lst (acc ++ [s1]) (partsP s2) := by
        rw [← hG, goR, he0, hcl0]
        simp only [hne]
        rfl
      have hs2 := hcs rfl
      have hsl : s1.length ≤ 44 ∧ s2.length ≤ 44 := by omega
      obtain ⟨Tn, hTn⟩ : ∃ Tn, Tn = goR lst (acc ++ [s1]) (partsP s2) := ⟨_, rfl⟩
      (conv => whnf)
      refine begin_f hS1 0 rfl rfl ?_
      (conv => whnf)
      intro w5 hS
      repeat ((conv => whnf); first | (apply q_i; focus (intro w1 hS; (conv => whnf); first | exact ⟨rfl, rfl⟩ | ((first | refine ld_f hS 0 rfl rfl ?_ | refine ld_f hS 1 rfl rfl ?_ | refine ld_f hS 2 rfl rfl ?_ | refine ld_f hS 3 rfl rfl ?_ | refine ld_f hS 4 rfl rfl ?_ | refine ld_f hS 5 rfl rfl ?_ | refine ldA_f hS 0 rfl rfl ?_ | refine ldA_f hS 1 rfl rfl ?_ | refine ldA_f hS 2 rfl rfl ?_ | refine ldA_f hS 3 rfl rfl ?_ | refine ldA_f hS 4 rfl rfl ?_ | refine ldA_f hS 5 rfl rfl ?_); (conv => whnf); exact ⟨rfl, rfl⟩))) | (refine nw_f hS ?_; intro b w1 hS) | refine as_i hS ?_ | refine as_i (hS.subs (List.nil_sublist _) sb9) ?_ | refine as_i (hS.subs (List.Sublist.refl _) sb9) ?_ | refine bar_f hS ?_ | refine ld_f hS 0 rfl rfl ?_ | refine ld_f hS 1 rfl rfl ?_ | refine ld_f hS 2 rfl rfl ?_ | refine ld_f hS 3 rfl rfl ?_ | refine ld_f hS 4 rfl rfl ?_ | refine ld_f hS 5 rfl rfl ?_ | refine ldA_f hS 0 rfl rfl ?_ | refine ldA_f hS 1 rfl rfl ?_ | refine ldA_f hS 2 rfl rfl ?_ | refine ldA_f hS 3 rfl rfl ?_ | refine ldA_f hS 4 rfl rfl ?_ | refine ldA_f hS 5 rfl rfl ?_ | ((first | refine stN_f hS 0 rfl (lb9 rfl) rfl rfl ?_ | refine stN_f hS 1 rfl (lb9 rfl) rfl rfl ?_ | refine stN_f hS 2 rfl (lb9 rfl) rfl rfl ?_ | refine stN_f hS 3 rfl (lb9 rfl) rfl rfl ?_ | refine stN_f hS 4 rfl (lb9 rfl) rfl rfl ?_ | refine stN_f hS 5 rfl (lb9 rfl) rfl rfl ?_ | refine stM_f hS 0 rfl (lb9 rfl) rfl ?_ | refine stM_f hS 1 rfl (lb9 rfl) rfl ?_ | refine stM_f hS 2 rfl (lb9 rfl) rfl ?_ | refine stM_f hS 3 rfl (lb9 rfl) rfl ?_ | refine stM_f hS 4 rfl (lb9 rfl) rfl ?_ | refine stM_f hS 5 rfl (lb9 rfl) rfl ?_); (conv => whnf); intro w1 hS) | (refine dr9 hS ?_; intro w1 hS) | refine br_t (by assumption) ?_ | refine br_f (by assumption) ?_)
      rw [← hTn] at hT3
    case' false =>
      obtain ⟨rfl, hs2⟩ : qq = s1 ∧ s2 = [] := by
        have := hcn rfl
        simp at this
        exact ⟨this.1.symm, this.2⟩
      rw [if_neg (by decide)] at hpc
      rw [hpc] at hG
      have hT3 : T = if checkE (lst qq).1 ≠ 0 then ([], checkE (lst qq).1, some qq) else if acc.length = 4 then ([], 3, some qq) else if (lst qq).2 ≠ 0 then ([], (lst qq).2, some qq) else (acc ++ [(lst qq).1], 0, some qq) := by
        rw [← hG, goR]
        simp
      have hsl : s2.length ≤ 44 := by rw [hs2]; simp
      (conv => whnf)
      refine begin_f hS1 0 rfl rfl ?_
      (conv => whnf)
      intro w5 hS
      rw [hcl0] at hS
      repeat ((conv => whnf); first | (apply q_i; focus (intro w1 hS; (conv => whnf); first | exact ⟨rfl, rfl⟩ | ((first | refine ld_f hS 0 rfl rfl ?_ | refine ld_f hS 1 rfl rfl ?_ | refine ld_f hS 2 rfl rfl ?_ | refine ld_f hS 3 rfl rfl ?_ | refine ld_f hS 4 rfl rfl ?_ | refine ld_f hS 5 rfl rfl ?_ | refine ldA_f hS 0 rfl rfl ?_ | refine ldA_f hS 1 rfl rfl ?_ | refine ldA_f hS 2 rfl rfl ?_ | refine ldA_f hS 3 rfl rfl ?_ | refine ldA_f hS 4 rfl rfl ?_ | refine ldA_f hS 5 rfl rfl ?_); (conv => whnf); exact ⟨rfl, rfl⟩))) | (refine nw_f hS ?_; intro b w1 hS) | refine as_i hS ?_ | refine as_i (hS.subs (List.nil_sublist _) sb9) ?_ | refine as_i (hS.subs (List.Sublist.refl _) sb9) ?_ | refine bar_f hS ?_ | refine ld_f hS 0 rfl rfl ?_ | refine ld_f hS 1 rfl rfl ?_ | refine ld_f hS 2 rfl rfl ?_ | refine ld_f hS 3 rfl rfl ?_ | refine ld_f hS 4 rfl rfl ?_ | refine ld_f hS 5 rfl rfl ?_ | refine ldA_f hS 0 rfl rfl ?_ | refine ldA_f hS 1 rfl rfl ?_ | refine ldA_f hS 2 rfl rfl ?_ | refine ldA_f hS 3 rfl rfl ?_ | refine ldA_f hS 4 rfl rfl ?_ | refine ldA_f hS 5 rfl rfl ?_ | ((first | refine stN_f hS 0 rfl (lb9 rfl) rfl rfl ?_ | refine stN_f hS 1 rfl (lb9 rfl) rfl rfl ?_ | refine stN_f hS 2 rfl (lb9 rfl) rfl rfl ?_ | refine stN_f hS 3 rfl (lb9 rfl) rfl rfl ?_ | refine stN_f hS 4 rfl (lb9 rfl) rfl rfl ?_ | refine stN_f hS 5 rfl (lb9 rfl) rfl rfl ?_ | refine stM_f hS 0 rfl (lb9 rfl) rfl ?_ | refine stM_f hS 1 rfl (lb9 rfl) rfl ?_ | refine stM_f hS 2 rfl (lb9 rfl) rfl ?_ | refine stM_f hS 3 rfl (lb9 rfl) rfl ?_ | refine stM_f hS 4 rfl (lb9 rfl) rfl ?_ | refine stM_f hS 5 rfl (lb9 rfl) rfl ?_); (conv => whnf); intro w1 hS) | (refine dr9 hS ?_; intro w1 hS) | refine br_t (by assumption) ?_ | refine br_f (by assumption) ?_)
      refine cv_i (Cv.mono (hT qq _ (by omega) (hS.fr (List.Sublist.trans (List.sublist_append_left Lx []) (List.sublist_append_right Lo _)))) ?_)
      rintro v w6 ⟨rfl, hS'⟩
      replace hS := (hS.rot.callW hS').rot
      clear hcl0
      obtain ⟨cl, hcl'⟩ : ∃ c : Option (List UInt8), c = some qq := ⟨_, rfl⟩
      rw [show Ly qq = cbL Lx Ly (some qq) from rfl, ← hcl'] at hS
      rw [← hcl'] at hT3
      obtain ⟨Tn, hTn⟩ : ∃ Tn : List (List UInt8) × Int × Option (List UInt8), Tn = (acc ++ [(lst qq).1], 0, cl) := ⟨_, rfl⟩
      rw [← hTn] at hT3
      generalize (lst qq).1 = s1 at *
      clear he0
      generalize (lst qq).2 = e0 at *
      repeat ((conv => whnf); first | (apply q_i; focus (intro w1 hS; (conv => whnf); first | exact ⟨rfl, rfl⟩ | ((first | refine ld_f hS 0 rfl rfl ?_ | refine ld_f hS 1 rfl rfl ?_ | refine ld_f hS 2 rfl rfl ?_ | refine ld_f hS 3 rfl rfl ?_ | refine ld_f hS 4 rfl rfl ?_ | refine ld_f hS 5 rfl rfl ?_ | refine ldA_f hS 0 rfl rfl ?_ | refine ldA_f hS 1 rfl rfl ?_ | refine ldA_f hS 2 rfl rfl ?_ | refine ldA_f hS 3 rfl rfl ?_ | refine ldA_f hS 4 rfl rfl ?_ | refine ldA_f hS 5 rfl rfl ?_); (conv => whnf); exact ⟨rfl, rfl⟩))) | (refine nw_f hS ?_; intro b w1 hS) | refine as_i hS ?_ | refine as_i (hS.subs (List.nil_sublist _) sb9) ?_ | refine as_i (hS.subs (List.Sublist.refl _) sb9) ?_ | refine bar_f hS ?_ | refine ld_f hS 0 rfl rfl ?_ | refine ld_f hS 1 rfl rfl ?_ | refine ld_f hS 2 rfl rfl ?_ | refine ld_f hS 3 rfl rfl ?_ | refine ld_f hS 4 rfl rfl ?_ | refine ld_f hS 5 rfl rfl ?_ | refine ldA_f hS 0 rfl rfl ?_ | refine ldA_f hS 1 rfl rfl ?_ | refine ldA_f hS 2 rfl rfl ?_ | refine ldA_f hS 3 rfl rfl ?_ | refine ldA_f hS 4 rfl rfl ?_ | refine ldA_f hS 5 rfl rfl ?_ | ((first | refine stN_f hS 0 rfl (lb9 rfl) rfl rfl ?_ | refine stN_f hS 1 rfl (lb9 rfl) rfl rfl ?_ | refine stN_f hS 2 rfl (lb9 rfl) rfl rfl ?_ | refine stN_f hS 3 rfl (lb9 rfl) rfl rfl ?_ | refine stN_f hS 4 rfl (lb9 rfl) rfl rfl ?_ | refine stN_f hS 5 rfl (lb9 rfl) rfl rfl ?_ | refine stM_f hS 0 rfl (lb9 rfl) rfl ?_ | refine stM_f hS 1 rfl (lb9 rfl) rfl ?_ | refine stM_f hS 2 rfl (lb9 rfl) rfl ?_ | refine stM_f hS 3 rfl (lb9 rfl) rfl ?_ | refine stM_f hS 4 rfl (lb9 rfl) rfl ?_ | refine stM_f hS 5 rfl (lb9 rfl) rfl ?_); (conv => whnf); intro w1 hS) | (refine dr9 hS ?_; intro w1 hS) | refine br_t (by assumption) ?_ | refine br_f (by assumption) ?_)
    all_goals
      have hck := fun w => pcheck_c s1 w
      generalize checkE s1 = ce at *
      by_cases h1 : ce = 0
      case neg =>
        have g5 : (ce != 0) = true := by simp [h1]
        rw [if_pos h1] at hT3
        rw [hT3]
        repeat ((conv => whnf); first | (apply q_i; focus (intro w1 hS; (conv => whnf); first | exact ⟨rfl, rfl⟩ | ((first | refine ld_f hS 0 rfl rfl ?_ | refine ld_f hS 1 rfl rfl ?_ | refine ld_f hS 2 rfl rfl ?_ | refine ld_f hS 3 rfl rfl ?_ | refine ld_f hS 4 rfl rfl ?_ | refine ld_f hS 5 rfl rfl ?_ | refine ldA_f hS 0 rfl rfl ?_ | refine ldA_f hS 1 rfl rfl ?_ | refine ldA_f hS 2 rfl rfl ?_ | refine ldA_f hS 3 rfl rfl ?_ | refine ldA_f hS 4 rfl rfl ?_ | refine ldA_f hS 5 rfl rfl ?_); (conv => whnf); exact ⟨rfl, rfl⟩))) | (refine nw_f hS ?_; intro b w1 hS) | refine as_i hS ?_ | refine as_i (hS.subs (List.nil_sublist _) sb9) ?_ | refine as_i (hS.subs (List.Sublist.refl _) sb9) ?_ | refine bar_f hS ?_ | refine ld_f hS 0 rfl rfl ?_ | refine ld_f hS 1 rfl rfl ?_ | refine ld_f hS 2 rfl rfl ?_ | refine ld_f hS 3 rfl rfl ?_ | refine ld_f hS 4 rfl rfl ?_ | refine ld_f hS 5 rfl rfl ?_ | refine ldA_f hS 0 rfl rfl ?_ | refine ldA_f hS 1 rfl rfl ?_ | refine ldA_f hS 2 rfl rfl ?_ | refine ldA_f hS 3 rfl rfl ?_ | refine ldA_f hS 4 rfl rfl ?_ | refine ldA_f hS 5 rfl rfl ?_ | ((first | refine stN_f hS 0 rfl (lb9 rfl) rfl rfl ?_ | refine stN_f hS 1 rfl (lb9 rfl) rfl rfl ?_ | refine stN_f hS 2 rfl (lb9 rfl) rfl rfl ?_ | refine stN_f hS 3 rfl (lb9 rfl) rfl rfl ?_ | refine stN_f hS 4 rfl (lb9 rfl) rfl rfl ?_ | refine stN_f hS 5 rfl (lb9 rfl) rfl rfl ?_ | refine stM_f hS 0 rfl (lb9 rfl) rfl ?_ | refine stM_f hS 1 rfl (lb9 rfl) rfl ?_ | refine stM_f hS 2 rfl (lb9 rfl) rfl ?_ | refine stM_f hS 3 rfl (lb9 rfl) rfl ?_ | refine stM_f hS 4 rfl (lb9 rfl) rfl ?_ | refine stM_f hS 5 rfl (lb9 rfl) rfl ?_); (conv => whnf); intro w1 hS) | (refine fc_m (hck _) ?_; rintro v w3 ⟨rfl, hS'⟩; replace hS := hS.call0 hS') | (refine dr9 hS ?_; intro w1 hS) | refine br_t (by assumption) ?_ | refine br_f (by assumption) ?_)
        refine end_f hS 0 rfl ?_
        (conv => whnf)
        intro w7 hS
        repeat ((conv => whnf); first | (apply q_i; focus (intro w1 hS; (conv => whnf); first | exact ⟨rfl, rfl⟩ | ((first | refine ld_f hS 0 rfl rfl ?_ | refine ld_f hS 1 rfl rfl ?_ | refine ld_f hS 2 rfl rfl ?_ | refine ld_f hS 3 rfl rfl ?_ | refine ld_f hS 4 rfl rfl ?_ | refine ld_f hS 5 rfl rfl ?_ | refine ldA_f hS 0 rfl rfl ?_ | refine ldA_f hS 1 rfl rfl ?_ | refine ldA_f hS 2 rfl rfl ?_ | refine ldA_f hS 3 rfl rfl ?_ | refine ldA_f hS 4 rfl rfl ?_ | refine ldA_f hS 5 rfl rfl ?_); (conv => whnf); exact ⟨rfl, rfl⟩))) | (refine nw_f hS ?_; intro b w1 hS) | refine as_i hS ?_ | refine as_i (hS.subs (List.nil_sublist _) sb9) ?_ | refine as_i (hS.subs (List.Sublist.refl _) sb9) ?_ | refine bar_f hS ?_ | refine ld_f hS 0 rfl rfl ?_ | refine ld_f hS 1 rfl rfl ?_ | refine ld_f hS 2 rfl rfl ?_ | refine ld_f hS 3 rfl rfl ?_ | refine ld_f hS 4 rfl rfl ?_ | refine ld_f hS 5 rfl rfl ?_ | refine ldA_f hS 0 rfl rfl ?_ | refine ldA_f hS 1 rfl rfl ?_ | refine ldA_f hS 2 rfl rfl ?_ | refine ldA_f hS 3 rfl rfl ?_ | refine ldA_f hS 4 rfl rfl ?_ | refine ldA_f hS 5 rfl rfl ?_ | ((first | refine stN_f hS 0 rfl (lb9 rfl) rfl rfl ?_ | refine stN_f hS 1 rfl (lb9 rfl) rfl rfl ?_ | refine stN_f hS 2 rfl (lb9 rfl) rfl rfl ?_ | refine stN_f hS 3 rfl (lb9 rfl) rfl rfl ?_ | refine stN_f hS 4 rfl (lb9 rfl) rfl rfl ?_ | refine stN_f hS 5 rfl (lb9 rfl) rfl rfl ?_ | refine stM_f hS 0 rfl (lb9 rfl) rfl ?_ | refine stM_f hS 1 rfl (lb9 rfl) rfl ?_ | refine stM_f hS 2 rfl (lb9 rfl) rfl ?_ | refine stM_f hS 3 rfl (lb9 rfl) rfl ?_ | refine stM_f hS 4 rfl (lb9 rfl) rfl ?_ | refine stM_f hS 5 rfl (lb9 rfl) rfl ?_); (conv => whnf); intro w1 hS) | (refine dr9 hS ?_; intro w1 hS) | refine br_t (by assumption) ?_ | refine br_f (by assumption) ?_)
        refine loopEndR_f hS 0 rfl rfl rfl ?_
        (conv => whnf)
        intro w8 hS
        repeat ((conv => whnf); first | (apply q_i; focus (intro w1 hS; (conv => whnf); first | exact ⟨rfl, rfl⟩ | ((first | refine ld_f hS 0 rfl rfl ?_ | refine ld_f hS 1 rfl rfl ?_ | refine ld_f hS 2 rfl rfl ?_ | refine ld_f hS 3 rfl rfl ?_ | refine ld_f hS 4 rfl rfl ?_ | refine ld_f hS 5 rfl rfl ?_ | refine ldA_f hS 0 rfl rfl ?_ | refine ldA_f hS 1 rfl rfl ?_ | refine ldA_f hS 2 rfl rfl ?_ | refine ldA_f hS 3 rfl rfl ?_ | refine ldA_f hS 4 rfl rfl ?_ | refine ldA_f hS 5 rfl rfl ?_); (conv => whnf); exact ⟨rfl, rfl⟩))) | (refine nw_f hS ?_; intro b w1 hS) | refine as_i hS ?_ | refine as_i (hS.subs (List.nil_sublist _) sb9) ?_ | refine as_i (hS.subs (List.Sublist.refl _) sb9) ?_ | refine bar_f hS ?_ | refine ld_f hS 0 rfl rfl ?_ | refine ld_f hS 1 rfl rfl ?_ | refine ld_f hS 2 rfl rfl ?_ | refine ld_f hS 3 rfl rfl ?_ | refine ld_f hS 4 rfl rfl ?_ | refine ld_f hS 5 rfl rfl ?_ | refine ldA_f hS 0 rfl rfl ?_ | refine ldA_f hS 1 rfl rfl ?_ | refine ldA_f hS 2 rfl rfl ?_ | refine ldA_f hS 3 rfl rfl ?_ | refine ldA_f hS 4 rfl rfl ?_ | refine ldA_f hS 5 rfl rfl ?_ | ((first | refine stN_f hS 0 rfl (lb9 rfl) rfl rfl ?_ | refine stN_f hS 1 rfl (lb9 rfl) rfl rfl ?_ | refine stN_f hS 2 rfl (lb9 rfl) rfl rfl ?_ | refine stN_f hS 3 rfl (lb9 rfl) rfl rfl ?_ | refine stN_f hS 4 rfl (lb9 rfl) rfl rfl ?_ | refine stN_f hS 5 rfl (lb9 rfl) rfl rfl ?_ | refine stM_f hS 0 rfl (lb9 rfl) rfl ?_ | refine stM_f hS 1 rfl (lb9 rfl) rfl ?_ | refine stM_f hS 2 rfl (lb9 rfl) rfl ?_ | refine stM_f hS 3 rfl (lb9 rfl) rfl ?_ | refine stM_f hS 4 rfl (lb9 rfl) rfl ?_ | refine stM_f hS 5 rfl (lb9 rfl) rfl ?_); (conv => whnf); intro w1 hS) | (refine dr9 hS ?_; intro w1 hS) | refine br_t (by assumption) ?_ | refine br_f (by assumption) ?_)
        refine take_f hS 1 rfl ?_
        (conv => whnf)
        intro w9 hS
        repeat ((conv => whnf); first | (apply q_i; focus (intro w1 hS; (conv => whnf); first | exact ⟨rfl, rfl⟩ | ((first | refine ld_f hS 0 rfl rfl ?_ | refine ld_f hS 1 rfl rfl ?_ | refine ld_f hS 2 rfl rfl ?_ | refine ld_f hS 3 rfl rfl ?_ | refine ld_f hS 4 rfl rfl ?_ | refine ld_f hS 5 rfl rfl ?_ | refine ldA_f hS 0 rfl rfl ?_ | refine ldA_f hS 1 rfl rfl ?_ | refine ldA_f hS 2 rfl rfl ?_ | refine ldA_f hS 3 rfl rfl ?_ | refine ldA_f hS 4 rfl rfl ?_ | refine ldA_f hS 5 rfl rfl ?_); (conv => whnf); exact ⟨rfl, rfl⟩))) | (refine nw_f hS ?_; intro b w1 hS) | refine as_i hS ?_ | refine as_i (hS.subs (List.nil_sublist _) sb9) ?_ | refine as_i (hS.subs (List.Sublist.refl _) sb9) ?_ | refine bar_f hS ?_ | refine ld_f hS 0 rfl rfl ?_ | refine ld_f hS 1 rfl rfl ?_ | refine ld_f hS 2 rfl rfl ?_ | refine ld_f hS 3 rfl rfl ?_ | refine ld_f hS 4 rfl rfl ?_ | refine ld_f hS 5 rfl rfl ?_ | refine ldA_f hS 0 rfl rfl ?_ | refine ldA_f hS 1 rfl rfl ?_ | refine ldA_f hS 2 rfl rfl ?_ | refine ldA_f hS 3 rfl rfl ?_ | refine ldA_f hS 4 rfl rfl ?_ | refine ldA_f hS 5 rfl rfl ?_ | ((first | refine stN_f hS 0 rfl (lb9 rfl) rfl rfl ?_ | refine stN_f hS 1 rfl (lb9 rfl) rfl rfl ?_ | refine stN_f hS 2 rfl (lb9 rfl) rfl rfl ?_ | refine stN_f hS 3 rfl (lb9 rfl) rfl rfl ?_ | refine stN_f hS 4 rfl (lb9 rfl) rfl rfl ?_ | refine stN_f hS 5 rfl (lb9 rfl) rfl rfl ?_ | refine stM_f hS 0 rfl (lb9 rfl) rfl ?_ | refine stM_f hS 1 rfl (lb9 rfl) rfl ?_ | refine stM_f hS 2 rfl (lb9 rfl) rfl ?_ | refine stM_f hS 3 rfl (lb9 rfl) rfl ?_ | refine stM_f hS 4 rfl (lb9 rfl) rfl ?_ | refine stM_f hS 5 rfl (lb9 rfl) rfl ?_); (conv => whnf); intro w1 hS) | (refine dr9 hS ?_; intro w1 hS) | refine br_t (by assumption) ?_ | refine br_f (by assumption) ?_)
        exact ⟨none, 0, [], rfl, .nil, by simpa using hS.fr (List.sublist_append_right Lo _)⟩
      have g5 : (ce != 0) = false := by simp [h1]
      rw [if_neg (by simpa using h1)] at hT3
      by_cases h2 : acc.length = 4
      case pos =>
        have g6 : ((acc.length : Int) == 4) = true := by simp; omega
        rw [if_pos h2] at hT3
        rw [hT3]
        repeat ((conv => whnf); first | (apply q_i; focus (intro w1 hS; (conv => whnf); first | exact ⟨rfl, rfl⟩ | ((first | refine ld_f hS 0 rfl rfl ?_ | refine ld_f hS 1 rfl rfl ?_ | refine ld_f hS 2 rfl rfl ?_ | refine ld_f hS 3 rfl rfl ?_ | refine ld_f hS 4 rfl rfl ?_ | refine ld_f hS 5 rfl rfl ?_ | refine ldA_f hS 0 rfl rfl ?_ | refine ldA_f hS 1 rfl rfl ?_ | refine ldA_f hS 2 rfl rfl ?_ | refine ldA_f hS 3 rfl rfl ?_ | refine ldA_f hS 4 rfl rfl ?_ | refine ldA_f hS 5 rfl rfl ?_); (conv => whnf); exact ⟨rfl, rfl⟩))) | (refine nw_f hS ?_; intro b w1 hS) | refine as_i hS ?_ | refine as_i (hS.subs (List.nil_sublist _) sb9) ?_ | refine as_i (hS.subs (List.Sublist.refl _) sb9) ?_ | refine bar_f hS ?_ | refine ld_f hS 0 rfl rfl ?_ | refine ld_f hS 1 rfl rfl ?_ | refine ld_f hS 2 rfl rfl ?_ | refine ld_f hS 3 rfl rfl ?_ | refine ld_f hS 4 rfl rfl ?_ | refine ld_f hS 5 rfl rfl ?_ | refine ldA_f hS 0 rfl rfl ?_ | refine ldA_f hS 1 rfl rfl ?_ | refine ldA_f hS 2 rfl rfl ?_ | refine ldA_f hS 3 rfl rfl ?_ | refine ldA_f hS 4 rfl rfl ?_ | refine ldA_f hS 5 rfl rfl ?_ | ((first | refine stN_f hS 0 rfl (lb9 rfl) rfl rfl ?_ | refine stN_f hS 1 rfl (lb9 rfl) rfl rfl ?_ | refine stN_f hS 2 rfl (lb9 rfl) rfl rfl ?_ | refine stN_f hS 3 rfl (lb9 rfl) rfl rfl ?_ | refine stN_f hS 4 rfl (lb9 rfl) rfl rfl ?_ | refine stN_f hS 5 rfl (lb9 rfl) rfl rfl ?_ | refine stM_f hS 0 rfl (lb9 rfl) rfl ?_ | refine stM_f hS 1 rfl (lb9 rfl) rfl ?_ | refine stM_f hS 2 rfl (lb9 rfl) rfl ?_ | refine stM_f hS 3 rfl (lb9 rfl) rfl ?_ | refine stM_f hS 4 rfl (lb9 rfl) rfl ?_ | refine stM_f hS 5 rfl (lb9 rfl) rfl ?_); (conv => whnf); intro w1 hS) | (refine fc_m (hck _) ?_; rintro v w3 ⟨rfl, hS'⟩; replace hS := hS.call0 hS') | (refine dr9 hS ?_; intro w1 hS) | refine br_t (by assumption) ?_ | refine br_f (by assumption) ?_)
        refine end_f hS 0 rfl ?_
        (conv => whnf)
        intro w7 hS
        repeat ((conv => whnf); first | (apply q_i; focus (intro w1 hS; (conv => whnf); first | exact ⟨rfl, rfl⟩ | ((first | refine ld_f hS 0 rfl rfl ?_ | refine ld_f hS 1 rfl rfl ?_ | refine ld_f hS 2 rfl rfl ?_ | refine ld_f hS 3 rfl rfl ?_ | refine ld_f hS 4 rfl rfl ?_ | refine ld_f hS 5 rfl rfl ?_ | refine ldA_f hS 0 rfl rfl ?_ | refine ldA_f hS 1 rfl rfl ?_ | refine ldA_f hS 2 rfl rfl ?_ | refine ldA_f hS 3 rfl rfl ?_ | refine ldA_f hS 4 rfl rfl ?_ | refine ldA_f hS 5 rfl rfl ?_); (conv => whnf); exact ⟨rfl, rfl⟩))) | (refine nw_f hS ?_; intro b w1 hS) | refine as_i hS ?_ | refine as_i (hS.subs (List.nil_sublist _) sb9) ?_ | refine as_i (hS.subs (List.Sublist.refl _) sb9) ?_ | refine bar_f hS ?_ | refine ld_f hS 0 rfl rfl ?_ | refine ld_f hS 1 rfl rfl ?_ | refine ld_f hS 2 rfl rfl ?_ | refine ld_f hS 3 rfl rfl ?_ | refine ld_f hS 4 rfl rfl ?_ | refine ld_f hS 5 rfl rfl ?_ | refine ldA_f hS 0 rfl rfl ?_ | refine ldA_f hS 1 rfl rfl ?_ | refine ldA_f hS 2 rfl rfl ?_ | refine ldA_f hS 3 rfl rfl ?_ | refine ldA_f hS 4 rfl rfl ?_ | refine ldA_f hS 5 rfl rfl ?_ | ((first | refine stN_f hS 0 rfl (lb9 rfl) rfl rfl ?_ | refine stN_f hS 1 rfl (lb9 rfl) rfl rfl ?_ | refine stN_f hS 2 rfl (lb9 rfl) rfl rfl ?_ | refine stN_f hS 3 rfl (lb9 rfl) rfl rfl ?_ | refine stN_f hS 4 rfl (lb9 rfl) rfl rfl ?_ | refine stN_f hS 5 rfl (lb9 rfl) rfl rfl ?_ | refine stM_f hS 0 rfl (lb9 rfl) rfl ?_ | refine stM_f hS 1 rfl (lb9 rfl) rfl ?_ | refine stM_f hS 2 rfl (lb9 rfl) rfl ?_ | refine stM_f hS 3 rfl (lb9 rfl) rfl ?_ | refine stM_f hS 4 rfl (lb9 rfl) rfl ?_ | refine stM_f hS 5 rfl (lb9 rfl) rfl ?_); (conv => whnf); intro w1 hS) | (refine dr9 hS ?_; intro w1 hS) | refine br_t (by assumption) ?_ | refine br_f (by assumption) ?_)
        refine loopEndR_f hS 0 rfl rfl rfl ?_
        (conv => whnf)
        intro w8 hS
        repeat ((conv => whnf); first | (apply q_i; focus (intro w1 hS; (conv => whnf); first | exact ⟨rfl, rfl⟩ | ((first | refine ld_f hS 0 rfl rfl ?_ | refine ld_f hS 1 rfl rfl ?_ | refine ld_f hS 2 rfl rfl ?_ | refine ld_f hS 3 rfl rfl ?_ | refine ld_f hS 4 rfl rfl ?_ | refine ld_f hS 5 rfl rfl ?_ | refine ldA_f hS 0 rfl rfl ?_ | refine ldA_f hS 1 rfl rfl ?_ | refine ldA_f hS 2 rfl rfl ?_ | refine ldA_f hS 3 rfl rfl ?_ | refine ldA_f hS 4 rfl rfl ?_ | refine ldA_f hS 5 rfl rfl ?_); (conv => whnf); exact ⟨rfl, rfl⟩))) | (refine nw_f hS ?_; intro b w1 hS) | refine as_i hS ?_ | refine as_i (hS.subs (List.nil_sublist _) sb9) ?_ | refine as_i (hS.subs (List.Sublist.refl _) sb9) ?_ | refine bar_f hS ?_ | refine ld_f hS 0 rfl rfl ?_ | refine ld_f hS 1 rfl rfl ?_ | refine ld_f hS 2 rfl rfl ?_ | refine ld_f hS 3 rfl rfl ?_ | refine ld_f hS 4 rfl rfl ?_ | refine ld_f hS 5 rfl rfl ?_ | refine ldA_f hS 0 rfl rfl ?_ | refine ldA_f hS 1 rfl rfl ?_ | refine ldA_f hS 2 rfl rfl ?_ | refine ldA_f hS 3 rfl rfl ?_ | refine ldA_f hS 4 rfl rfl ?_ | refine ldA_f hS 5 rfl rfl ?_ | ((first | refine stN_f hS 0 rfl (lb9 rfl) rfl rfl ?_ | refine stN_f hS 1 rfl (lb9 rfl) rfl rfl ?_ | refine stN_f hS 2 rfl (lb9 rfl) rfl rfl ?_ | refine stN_f hS 3 rfl (lb9 rfl) rfl rfl ?_ | refine stN_f hS 4 rfl (lb9 rfl) rfl rfl ?_ | refine stN_f hS 5 rfl (lb9 rfl) rfl rfl ?_ | refine stM_f hS 0 rfl (lb9 rfl) rfl ?_ | refine stM_f hS 1 rfl (lb9 rfl) rfl ?_ | refine stM_f hS 2 rfl (lb9 rfl) rfl ?_ | refine stM_f hS 3 rfl (lb9 rfl) rfl ?_ | refine stM_f hS 4 rfl (lb9 rfl) rfl ?_ | refine stM_f hS 5 rfl (lb9 rfl) rfl ?_); (conv => whnf); intro w1 hS) | (refine dr9 hS ?_; intro w1 hS) | refine br_t (by assumption) ?_ | refine br_f (by assumption) ?_)
        refine take_f hS 1 rfl ?_
        (conv => whnf)
        intro w9 hS
        repeat ((conv => whnf); first | (apply q_i; focus (intro w1 hS; (conv => whnf); first | exact ⟨rfl, rfl⟩ | ((first | refine ld_f hS 0 rfl rfl ?_ | refine ld_f hS 1 rfl rfl ?_ | refine ld_f hS 2 rfl rfl ?_ | refine ld_f hS 3 rfl rfl ?_ | refine ld_f hS 4 rfl rfl ?_ | refine ld_f hS 5 rfl rfl ?_ | refine ldA_f hS 0 rfl rfl ?_ | refine ldA_f hS 1 rfl rfl ?_ | refine ldA_f hS 2 rfl rfl ?_ | refine ldA_f hS 3 rfl rfl ?_ | refine ldA_f hS 4 rfl rfl ?_ | refine ldA_f hS 5 rfl rfl ?_); (conv => whnf); exact ⟨rfl, rfl⟩))) | (refine nw_f hS ?_; intro b w1 hS) | refine as_i hS ?_ | refine as_i (hS.subs (List.nil_sublist _) sb9) ?_ | refine as_i (hS.subs (List.Sublist.refl _) sb9) ?_ | refine bar_f hS ?_ | refine ld_f hS 0 rfl rfl ?_ | refine ld_f hS 1 rfl rfl ?_ | refine ld_f hS 2 rfl rfl ?_ | refine ld_f hS 3 rfl rfl ?_ | refine ld_f hS 4 rfl rfl ?_ | refine ld_f hS 5 rfl rfl ?_ | refine ldA_f hS 0 rfl rfl ?_ | refine ldA_f hS 1 rfl rfl ?_ | refine ldA_f hS 2 rfl rfl ?_ | refine ldA_f hS 3 rfl rfl ?_ | refine ldA_f hS 4 rfl rfl ?_ | refine ldA_f hS 5 rfl rfl ?_ | ((first | refine stN_f hS 0 rfl (lb9 rfl) rfl rfl ?_ | refine stN_f hS 1 rfl (lb9 rfl) rfl rfl ?_ | refine stN_f hS 2 rfl (lb9 rfl) rfl rfl ?_ | refine stN_f hS 3 rfl (lb9 rfl) rfl rfl ?_ | refine stN_f hS 4 rfl (lb9 rfl) rfl rfl ?_ | refine stN_f hS 5 rfl (lb9 rfl) rfl rfl ?_ | refine stM_f hS 0 rfl (lb9 rfl) rfl ?_ | refine stM_f hS 1 rfl (lb9 rfl) rfl ?_ | refine stM_f hS 2 rfl (lb9 rfl) rfl ?_ | refine stM_f hS 3 rfl (lb9 rfl) rfl ?_ | refine stM_f hS 4 rfl (lb9 rfl) rfl ?_ | refine stM_f hS 5 rfl (lb9 rfl) rfl ?_); (conv => whnf); intro w1 hS) | (refine dr9 hS ?_; intro w1 hS) | refine br_t (by assumption) ?_ | refine br_f (by assumption) ?_)
        exact ⟨none, 0, [], rfl, .nil, by simpa using hS.fr (List.sublist_append_right Lo _)⟩
      have g6 : ((acc.length : Int) == 4) = false := by rw [beq_eq_false_iff_ne]; omega
      rw [if_neg h2] at hT3
      by_cases h3 : e0 = 0
      case neg =>
        have g7 : (e0 != 0) = true := by simp [h3]
        rw [if_pos h3] at hT3
        rw [hT3]
        repeat ((conv => whnf); first | (apply q_i; focus (intro w1 hS; (conv => whnf); first | exact ⟨rfl, rfl⟩ | ((first | refine ld_f hS 0 rfl rfl ?_ | refine ld_f hS 1 rfl rfl ?_ | refine ld_f hS 2 rfl rfl ?_ | refine ld_f hS 3 rfl rfl ?_ | refine ld_f hS 4 rfl rfl ?_ | refine ld_f hS 5 rfl rfl ?_ | refine ldA_f hS 0 rfl rfl ?_ | refine ldA_f hS 1 rfl rfl ?_ | refine ldA_f hS 2 rfl rfl ?_ | refine ldA_f hS 3 rfl rfl ?_ | refine ldA_f hS 4 rfl rfl ?_ | refine ldA_f hS 5 rfl rfl ?_); (conv => whnf); exact ⟨rfl, rfl⟩))) | (refine nw_f hS ?_; intro b w1 hS) | refine as_i hS ?_ | refine as_i (hS.subs (List.nil_sublist _) sb9) ?_ | refine as_i (hS.subs (List.Sublist.refl _) sb9) ?_ | refine bar_f hS ?_ | refine ld_f hS 0 rfl rfl ?_ | refine ld_f hS 1 rfl rfl ?_ | refine ld_f hS 2 rfl rfl ?_ | refine ld_f hS 3 rfl rfl ?_ | refine ld_f hS 4 rfl rfl ?_ | refine ld_f hS 5 rfl rfl ?_ | refine ldA_f hS 0 rfl rfl ?_ | refine ldA_f hS 1 rfl rfl ?_ | refine ldA_f hS 2 rfl rfl ?_ | refine ldA_f hS 3 rfl rfl ?_ | refine ldA_f hS 4 rfl rfl ?_ | refine ldA_f hS 5 rfl rfl ?_ | ((first | refine stN_f hS 0 rfl (lb9 rfl) rfl rfl ?_ | refine stN_f hS 1 rfl (lb9 rfl) rfl rfl ?_ | refine stN_f hS 2 rfl (lb9 rfl) rfl rfl ?_ | refine stN_f hS 3 rfl (lb9 rfl) rfl rfl ?_ | refine stN_f hS 4 rfl (lb9 rfl) rfl rfl ?_ | refine stN_f hS 5 rfl (lb9 rfl) rfl rfl ?_ | refine stM_f hS 0 rfl (lb9 rfl) rfl ?_ | refine stM_f hS 1 rfl (lb9 rfl) rfl ?_ | refine stM_f hS 2 rfl (lb9 rfl) rfl ?_ | refine stM_f hS 3 rfl (lb9 rfl) rfl ?_ | refine stM_f hS 4 rfl (lb9 rfl) rfl ?_ | refine stM_f hS 5 rfl (lb9 rfl) rfl ?_); (conv => whnf); intro w1 hS) | (refine fc_m (hck _) ?_; rintro v w3 ⟨rfl, hS'⟩; replace hS := hS.call0 hS') | refine br_t (by assumption) ?_ | refine br_f (by assumption) ?_)
        refine drawf (Ls := [_, _, _, _, _]) TB_ok rfl (by kernel_rfl) (by kernel_rfl) hS (List.Sublist.refl _) (.cons_cons _ (.cons_cons _ (.cons_cons _ (.cons_cons _ (.cons _ (.refl _)))))) ?_; intro w1 hS
        repeat' ((conv => whnf); first | refine And.intro ?_ ?_ | (apply q_i; focus (intro w1 hS; (conv => whnf); first | exact ⟨rfl, rfl⟩ | ((first | refine ld_f hS 0 rfl rfl ?_ | refine ld_f hS 1 rfl rfl ?_ | refine ld_f hS 2 rfl rfl ?_ | refine ld_f hS 3 rfl rfl ?_ | refine ld_f hS 4 rfl rfl ?_ | refine ld_f hS 5 rfl rfl ?_ | refine ldA_f hS 0 rfl rfl ?_ | refine ldA_f hS 1 rfl rfl ?_ | refine ldA_f hS 2 rfl rfl ?_ | refine ldA_f hS 3 rfl rfl ?_ | refine ldA_f hS 4 rfl rfl ?_ | refine ldA_f hS 5 rfl rfl ?_); (conv => whnf); exact ⟨rfl, rfl⟩))) | (refine nw_f hS ?_; intro b w1 hS) | refine as_i hS ?_ | refine as_i (hS.subs (List.nil_sublist _) sb9) ?_ | refine as_i (hS.subs (List.Sublist.refl _) sb9) ?_ | refine bar_f hS ?_ | refine ld_f hS 0 rfl rfl ?_ | refine ld_f hS 1 rfl rfl ?_ | refine ld_f hS 2 rfl rfl ?_ | refine ld_f hS 3 rfl rfl ?_ | refine ld_f hS 4 rfl rfl ?_ | refine ld_f hS 5 rfl rfl ?_ | refine ldA_f hS 0 rfl rfl ?_ | refine ldA_f hS 1 rfl rfl ?_ | refine ldA_f hS 2 rfl rfl ?_ | refine ldA_f hS 3 rfl rfl ?_ | refine ldA_f hS 4 rfl rfl ?_ | refine ldA_f hS 5 rfl rfl ?_ | ((first | refine stN_f hS 0 rfl (lb9 rfl) rfl rfl ?_ | refine stN_f hS 1 rfl (lb9 rfl) rfl rfl ?_ | refine stN_f hS 2 rfl (lb9 rfl) rfl rfl ?_ | refine stN_f hS 3 rfl (lb9 rfl) rfl rfl ?_ | refine stN_f hS 4 rfl (lb9 rfl) rfl rfl ?_ | refine stN_f hS 5 rfl (lb9 rfl) rfl rfl ?_ | refine stM_f hS 0 rfl (lb9 rfl) rfl ?_ | refine stM_f hS 1 rfl (lb9 rfl) rfl ?_ | refine stM_f hS 2 rfl (lb9 rfl) rfl ?_ | refine stM_f hS 3 rfl (lb9 rfl) rfl ?_ | refine stM_f hS 4 rfl (lb9 rfl) rfl ?_ | refine stM_f hS 5 rfl (lb9 rfl) rfl ?_); (conv => whnf); intro w1 hS) | refine br_t (by assumption) ?_ | refine br_f (by assumption) ?_)
        all_goals
          (conv => whnf)
          refine end_f hS 0 rfl ?_
          (conv => whnf)
          intro w7 hS
          repeat ((conv => whnf); first | (apply q_i; focus (intro w1 hS; (conv => whnf); first | exact ⟨rfl, rfl⟩ | ((first | refine ld_f hS 0 rfl rfl ?_ | refine ld_f hS 1 rfl rfl ?_ | refine ld_f hS 2 rfl rfl ?_ | refine ld_f hS 3 rfl rfl ?_ | refine ld_f hS 4 rfl rfl ?_ | refine ld_f hS 5 rfl rfl ?_ | refine ldA_f hS 0 rfl rfl ?_ | refine ldA_f hS 1 rfl rfl ?_ | refine ldA_f hS 2 rfl rfl ?_ | refine ldA_f hS 3 rfl rfl ?_ | refine ldA_f hS 4 rfl rfl ?_ | refine ldA_f hS 5 rfl rfl ?_); (conv => whnf); exact ⟨rfl, rfl⟩))) | (refine nw_f hS ?_; intro b w1 hS) | refine as_i hS ?_ | refine as_i (hS.subs (List.nil_sublist _) sb9) ?_ | refine as_i (hS.subs (List.Sublist.refl _) sb9) ?_ | refine bar_f hS ?_ | refine ld_f hS 0 rfl rfl ?_ | refine ld_f hS 1 rfl rfl ?_ | refine ld_f hS 2 rfl rfl ?_ | refine ld_f hS 3 rfl rfl ?_ | refine ld_f hS 4 rfl rfl ?_ | refine ld_f hS 5 rfl rfl ?_ | refine ldA_f hS 0 rfl rfl ?_ | refine ldA_f hS 1 rfl rfl ?_ | refine ldA_f hS 2 rfl rfl ?_ | refine ldA_f hS 3 rfl rfl ?_ | refine ldA_f hS 4 rfl rfl ?_ | refine ldA_f hS 5 rfl rfl ?_ | ((first | refine stN_f hS 0 rfl (lb9 rfl) rfl rfl ?_ | refine stN_f hS 1 rfl (lb9 rfl) rfl rfl ?_ | refine stN_f hS 2 rfl (lb9 rfl) rfl rfl ?_ | refine stN_f hS 3 rfl (lb9 rfl) rfl rfl ?_ | refine stN_f hS 4 rfl (lb9 rfl) rfl rfl ?_ | refine stN_f hS 5 rfl (lb9 rfl) rfl rfl ?_ | refine stM_f hS 0 rfl (lb9 rfl) rfl ?_ | refine stM_f hS 1 rfl (lb9 rfl) rfl ?_ | refine stM_f hS 2 rfl (lb9 rfl) rfl ?_ | refine stM_f hS 3 rfl (lb9 rfl) rfl ?_ | refine stM_f hS 4 rfl (lb9 rfl) rfl ?_ | refine stM_f hS 5 rfl (lb9 rfl) rfl ?_); (conv => whnf); intro w1 hS) | (refine dr9 hS ?_; intro w1 hS) | refine br_t (by assumption) ?_ | refine br_f (by assumption) ?_)
          refine loopEndR_f hS 0 rfl rfl rfl ?_
          (conv => whnf)
          intro w8 hS
          repeat ((conv => whnf); first | (apply q_i; focus (intro w1 hS; (conv => whnf); first | exact ⟨rfl, rfl⟩ | ((first | refine ld_f hS 0 rfl rfl ?_ | refine ld_f hS 1 rfl rfl ?_ | refine ld_f hS 2 rfl rfl ?_ | refine ld_f hS 3 rfl rfl ?_ | refine ld_f hS 4 rfl rfl ?_ | refine ld_f hS 5 rfl rfl ?_ | refine ldA_f hS 0 rfl rfl ?_ | refine ldA_f hS 1 rfl rfl ?_ | refine ldA_f hS 2 rfl rfl ?_ | refine ldA_f hS 3 rfl rfl ?_ | refine ldA_f hS 4 rfl rfl ?_ | refine ldA_f hS 5 rfl rfl ?_); (conv => whnf); exact ⟨rfl, rfl⟩))) | (refine nw_f hS ?_; intro b w1 hS) | refine as_i hS ?_ | refine as_i (hS.subs (List.nil_sublist _) sb9) ?_ | refine as_i (hS.subs (List.Sublist.refl _) sb9) ?_ | refine bar_f hS ?_ | refine ld_f hS 0 rfl rfl ?_ | refine ld_f hS 1 rfl rfl ?_ | refine ld_f hS 2 rfl rfl ?_ | refine ld_f hS 3 rfl rfl ?_ | refine ld_f hS 4 rfl rfl ?_ | refine ld_f hS 5 rfl rfl ?_ | refine ldA_f hS 0 rfl rfl ?_ | refine ldA_f hS 1 rfl rfl ?_ | refine ldA_f hS 2 rfl rfl ?_ | refine ldA_f hS 3 rfl rfl ?_ | refine ldA_f hS 4 rfl rfl ?_ | refine ldA_f hS 5 rfl rfl ?_ | ((first | refine stN_f hS 0 rfl (lb9 rfl) rfl rfl ?_ | refine stN_f hS 1 rfl (lb9 rfl) rfl rfl ?_ | refine stN_f hS 2 rfl (lb9 rfl) rfl rfl ?_ | refine stN_f hS 3 rfl (lb9 rfl) rfl rfl ?_ | refine stN_f hS 4 rfl (lb9 rfl) rfl rfl ?_ | refine stN_f hS 5 rfl (lb9 rfl) rfl rfl ?_ | refine stM_f hS 0 rfl (lb9 rfl) rfl ?_ | refine stM_f hS 1 rfl (lb9 rfl) rfl ?_ | refine stM_f hS 2 rfl (lb9 rfl) rfl ?_ | refine stM_f hS 3 rfl (lb9 rfl) rfl ?_ | refine stM_f hS 4 rfl (lb9 rfl) rfl ?_ | refine stM_f hS 5 rfl (lb9 rfl) rfl ?_); (conv => whnf); intro w1 hS) | (refine dr9 hS ?_; intro w1 hS) | refine br_t (by assumption) ?_ | refine br_f (by assumption) ?_)
          refine take_f hS 1 rfl ?_
          (conv => whnf)
          intro w9 hS
          repeat ((conv => whnf); first | (apply q_i; focus (intro w1 hS; (conv => whnf); first | exact ⟨rfl, rfl⟩ | ((first | refine ld_f hS 0 rfl rfl ?_ | refine ld_f hS 1 rfl rfl ?_ | refine ld_f hS 2 rfl rfl ?_ | refine ld_f hS 3 rfl rfl ?_ | refine ld_f hS 4 rfl rfl ?_ | refine ld_f hS 5 rfl rfl ?_ | refine ldA_f hS 0 rfl rfl ?_ | refine ldA_f hS 1 rfl rfl ?_ | refine ldA_f hS 2 rfl rfl ?_ | refine ldA_f hS 3 rfl rfl ?_ | refine ldA_f hS 4 rfl rfl ?_ | refine ldA_f hS 5 rfl rfl ?_); (conv => whnf); exact ⟨rfl, rfl⟩))) | (refine nw_f hS ?_; intro b w1 hS) | refine as_i hS ?_ | refine as_i (hS.subs (List.nil_sublist _) sb9) ?_ | refine as_i (hS.subs (List.Sublist.refl _) sb9) ?_ | refine bar_f hS ?_ | refine ld_f hS 0 rfl rfl ?_ | refine ld_f hS 1 rfl rfl ?_ | refine ld_f hS 2 rfl rfl ?_ | refine ld_f hS 3 rfl rfl ?_ | refine ld_f hS 4 rfl rfl ?_ | refine ld_f hS 5 rfl rfl ?_ | refine ldA_f hS 0 rfl rfl ?_ | refine ldA_f hS 1 rfl rfl ?_ | refine ldA_f hS 2 rfl rfl ?_ | refine ldA_f hS 3 rfl rfl ?_ | refine ldA_f hS 4 rfl rfl ?_ | refine ldA_f hS 5 rfl rfl ?_ | ((first | refine stN_f hS 0 rfl (lb9 rfl) rfl rfl ?_ | refine stN_f hS 1 rfl (lb9 rfl) rfl rfl ?_ | refine stN_f hS 2 rfl (lb9 rfl) rfl rfl ?_ | refine stN_f hS 3 rfl (lb9 rfl) rfl rfl ?_ | refine stN_f hS 4 rfl (lb9 rfl) rfl rfl ?_ | refine stN_f hS 5 rfl (lb9 rfl) rfl rfl ?_ | refine stM_f hS 0 rfl (lb9 rfl) rfl ?_ | refine stM_f hS 1 rfl (lb9 rfl) rfl ?_ | refine stM_f hS 2 rfl (lb9 rfl) rfl ?_ | refine stM_f hS 3 rfl (lb9 rfl) rfl ?_ | refine stM_f hS 4 rfl (lb9 rfl) rfl ?_ | refine stM_f hS 5 rfl (lb9 rfl) rfl ?_); (conv => whnf); intro w1 hS) | (refine dr9 hS ?_; intro w1 hS) | refine br_t (by assumption) ?_ | refine br_f (by assumption) ?_)
          exact ⟨none, 0, [], rfl, .nil, by simpa using hS.fr (List.sublist_append_right Lo _)⟩
      have g7 : (e0 != 0) = false := by simp [h3]
      rw [if_neg (by simpa using h3)] at hT3
      repeat ((conv => whnf); first | (apply q_i; focus (intro w1 hS; (conv => whnf); first | exact ⟨rfl, rfl⟩ | ((first | refine ld_f hS 0 rfl rfl ?_ | refine ld_f hS 1 rfl rfl ?_ | refine ld_f hS 2 rfl rfl ?_ | refine ld_f hS 3 rfl rfl ?_ | refine ld_f hS 4 rfl rfl ?_ | refine ld_f hS 5 rfl rfl ?_ | refine ldA_f hS 0 rfl rfl ?_ | refine ldA_f hS 1 rfl rfl ?_ | refine ldA_f hS 2 rfl rfl ?_ | refine ldA_f hS 3 rfl rfl ?_ | refine ldA_f hS 4 rfl rfl ?_ | refine ldA_f hS 5 rfl rfl ?_); (conv => whnf); exact ⟨rfl, rfl⟩))) | (refine nw_f hS ?_; intro b w1 hS) | refine as_i hS ?_ | refine as_i (hS.subs (List.nil_sublist _) sb9) ?_ | refine as_i (hS.subs (List.Sublist.refl _) sb9) ?_ | refine bar_f hS ?_ | refine ld_f hS 0 rfl rfl ?_ | refine ld_f hS 1 rfl rfl ?_ | refine ld_f hS 2 rfl rfl ?_ | refine ld_f hS 3 rfl rfl ?_ | refine ld_f hS 4 rfl rfl ?_ | refine ld_f hS 5 rfl rfl ?_ | refine ldA_f hS 0 rfl rfl ?_ | refine ldA_f hS 1 rfl rfl ?_ | refine ldA_f hS 2 rfl rfl ?_ | refine ldA_f hS 3 rfl rfl ?_ | refine ldA_f hS 4 rfl rfl ?_ | refine ldA_f hS 5 rfl rfl ?_ | ((first | refine stN_f hS 0 rfl (lb9 rfl) rfl rfl ?_ | refine stN_f hS 1 rfl (lb9 rfl) rfl rfl ?_ | refine stN_f hS 2 rfl (lb9 rfl) rfl rfl ?_ | refine stN_f hS 3 rfl (lb9 rfl) rfl rfl ?_ | refine stN_f hS 4 rfl (lb9 rfl) rfl rfl ?_ | refine stN_f hS 5 rfl (lb9 rfl) rfl rfl ?_ | refine stM_f hS 0 rfl (lb9 rfl) rfl ?_ | refine stM_f hS 1 rfl (lb9 rfl) rfl ?_ | refine stM_f hS 2 rfl (lb9 rfl) rfl ?_ | refine stM_f hS 3 rfl (lb9 rfl) rfl ?_ | refine stM_f hS 4 rfl (lb9 rfl) rfl ?_ | refine stM_f hS 5 rfl (lb9 rfl) rfl ?_); (conv => whnf); intro w1 hS) | (refine fc_m (hck _) ?_; rintro v w3 ⟨rfl, hS'⟩; replace hS := hS.call0 hS') | (refine dr9 hS ?_; intro w1 hS) | refine br_t (by assumption) ?_ | refine br_f (by assumption) ?_)
      refine app_f TB_ok elStr hS hv (show Rd _ _ (encT s1) from hS.rd 0 rfl) rfl (fun y hy => by simp [encT] at hy; subst hy; rfl) (by omega) (by omega) ?_
      intro v' Lo' w7 hv' hS
      obtain ⟨A6, c6, rfl, hv'⟩ := hv'.open
      have hal : (acc ++ [s1]).length = acc.length + 1 := by simp
      have haf : flat encT (acc ++ [s1]) = flat encT acc ++ encT s1 := by rw [flat_append]; simp [flat]
      rw [← hal, ← haf] at hv'
      rw [← hal]
      repeat ((conv => whnf); first | (apply q_i; focus (intro w1 hS; (conv => whnf); first | exact ⟨rfl, rfl⟩ | ((first | refine ld_f hS 0 rfl rfl ?_ | refine ld_f hS 1 rfl rfl ?_ | refine ld_f hS 2 rfl rfl ?_ | refine ld_f hS 3 rfl rfl ?_ | refine ld_f hS 4 rfl rfl ?_ | refine ld_f hS 5 rfl rfl ?_ | refine ld_f hS 6 rfl rfl ?_ | refine ldA_f hS 0 rfl rfl ?_ | refine ldA_f hS 1 rfl rfl ?_ | refine ldA_f hS 2 rfl rfl ?_ | refine ldA_f hS 3 rfl rfl ?_ | refine ldA_f hS 4 rfl rfl ?_ | refine ldA_f hS 5 rfl rfl ?_ | refine ldA_f hS 6 rfl rfl ?_); (conv => whnf); exact ⟨rfl, rfl⟩))) | (refine nw_f hS ?_; intro b w1 hS) | refine as_i hS ?_ | refine as_i (hS.subs (List.nil_sublist _) sb9) ?_ | refine as_i (hS.subs (List.Sublist.refl _) sb9) ?_ | refine bar_f hS ?_ | refine ld_f hS 0 rfl rfl ?_ | refine ld_f hS 1 rfl rfl ?_ | refine ld_f hS 2 rfl rfl ?_ | refine ld_f hS 3 rfl rfl ?_ | refine ld_f hS 4 rfl rfl ?_ | refine ld_f hS 5 rfl rfl ?_ | refine ld_f hS 6 rfl rfl ?_ | refine ldA_f hS 0 rfl rfl ?_ | refine ldA_f hS 1 rfl rfl ?_ | refine ldA_f hS 2 rfl rfl ?_ | refine ldA_f hS 3 rfl rfl ?_ | refine ldA_f hS 4 rfl rfl ?_ | refine ldA_f hS 5 rfl rfl ?_ | refine ldA_f hS 6 rfl rfl ?_ | ((first | refine stN_f hS 0 rfl (lb9 rfl) rfl rfl ?_ | refine stN_f hS 1 rfl (lb9 rfl) rfl rfl ?_ | refine stN_f hS 2 rfl (lb9 rfl) rfl rfl ?_ | refine stN_f hS 3 rfl (lb9 rfl) rfl rfl ?_ | refine stN_f hS 4 rfl (lb9 rfl) rfl rfl ?_ | refine stN_f hS 5 rfl (lb9 rfl) rfl rfl ?_ | refine stN_f hS 6 rfl (lb9 rfl) rfl rfl ?_ | refine stM_f hS 0 rfl (lb9 rfl) rfl ?_ | refine stM_f hS 1 rfl (lb9 rfl) rfl ?_ | refine stM_f hS 2 rfl (lb9 rfl) rfl ?_ | refine stM_f hS 3 rfl (lb9 rfl) rfl ?_ | refine stM_f hS 4 rfl (lb9 rfl) rfl ?_ | refine stM_f hS 5 rfl (lb9 rfl) rfl ?_ | refine stM_f hS 6 rfl (lb9 rfl) rfl ?_); (conv => whnf); intro w1 hS) | (refine dr9 hS ?_; intro w1 hS) | refine br_t (by assumption) ?_ | refine br_f (by assumption) ?_)
      refine end_f hS 1 rfl ?_
      (conv => whnf)
      intro w8 hS
      repeat ((conv => whnf); first | (apply q_i; focus (intro w1 hS; (conv => whnf); first | exact ⟨rfl, rfl⟩ | ((first | refine ld_f hS 0 rfl rfl ?_ | refine ld_f hS 1 rfl rfl ?_ | refine ld_f hS 2 rfl rfl ?_ | refine ld_f hS 3 rfl rfl ?_ | refine ld_f hS 4 rfl rfl ?_ | refine ld_f hS 5 rfl rfl ?_ | refine ld_f hS 6 rfl rfl ?_ | refine ldA_f hS 0 rfl rfl ?_ | refine ldA_f hS 1 rfl rfl ?_ | refine ldA_f hS 2 rfl rfl ?_ | refine ldA_f hS 3 rfl rfl ?_ | refine ldA_f hS 4 rfl rfl ?_ | refine ldA_f hS 5 rfl rfl ?_ | refine ldA_f hS 6 rfl rfl ?_); (conv => whnf); exact ⟨rfl, rfl⟩))) | (refine nw_f hS ?_; intro b w1 hS) | refine as_i hS ?_ | refine as_i (hS.subs (List.nil_sublist _) sb9) ?_ | refine as_i (hS.subs (List.Sublist.refl _) sb9) ?_ | refine bar_f hS ?_ | refine ld_f hS 0 rfl rfl ?_ | refine ld_f hS 1 rfl rfl ?_ | refine ld_f hS 2 rfl rfl ?_ | refine ld_f hS 3 rfl rfl ?_ | refine ld_f hS 4 rfl rfl ?_ | refine ld_f hS 5 rfl rfl ?_ | refine ld_f hS 6 rfl rfl ?_ | refine ldA_f hS 0 rfl rfl ?_ | refine ldA_f hS 1 rfl rfl ?_ | refine ldA_f hS 2 rfl rfl ?_ | refine ldA_f hS 3 rfl rfl ?_ | refine ldA_f hS 4 rfl rfl ?_ | refine ldA_f hS 5 rfl rfl ?_ | refine ldA_f hS 6 rfl rfl ?_ | ((first | refine stN_f hS 0 rfl (lb9 rfl) rfl rfl ?_ | refine stN_f hS 1 rfl (lb9 rfl) rfl rfl ?_ | refine stN_f hS 2 rfl (lb9 rfl) rfl rfl ?_ | refine stN_f hS 3 rfl (lb9 rfl) rfl rfl ?_ | refine stN_f hS 4 rfl (lb9 rfl) rfl rfl ?_ | refine stN_f hS 5 rfl (lb9 rfl) rfl rfl ?_ | refine stN_f hS 6 rfl (lb9 rfl) rfl rfl ?_ | refine stM_f hS 0 rfl (lb9 rfl) rfl ?_ | refine stM_f hS 1 rfl (lb9 rfl) rfl ?_ | refine stM_f hS 2 rfl (lb9 rfl) rfl ?_ | refine stM_f hS 3 rfl (lb9 rfl) rfl ?_ | refine stM_f hS 4 rfl (lb9 rfl) rfl ?_ | refine stM_f hS 5 rfl (lb9 rfl) rfl ?_ | refine stM_f hS 6 rfl (lb9 rfl) rfl ?_); (conv => whnf); intro w1 hS) | (refine dr9 hS ?_; intro w1 hS) | refine br_t (by assumption) ?_ | refine br_f (by assumption) ?_)
      first
        | (refine ⟨rfl, (acc ++ [s1], s2, true, cl), ?_, ⟨hsl.2, by show (acc ++ [s1]).length ≤ 4; omega, fun _ => ⟨hcl0, by rw [hT3, hTn]⟩, fun h => (nomatch h), A6, c6, Lo', e0, he0, hv', hS.subs (List.Sublist.refl _) (.cons _ (.refl _))⟩, by show s2.length + 1 < qq.length + 1; omega⟩
           rfl)
        | (refine ⟨rfl, (acc ++ [s1], s2, false, cl), ?_, ⟨hsl, by show (acc ++ [s1]).length ≤ 4; omega, fun h => (nomatch h), fun _ => by rw [hT3, hTn], A6, c6, Lo', e0, h3, hv', hS.subs (List.Sublist.refl _) (.cons _ (.refl _))⟩, by show s2.length + 0 < qq.length + 1; rw [hs2]; simp⟩
           rfl)
end Go.RV.C04

set_option maxRecDepth 20000
set_option linter.unusedVariables false
set_option linter.unusedSimpArgs false
namespace Go.RV.C04
open Go Go.Proofs Go.RowKit

def plainL : Lst := fun s => (s, 0)
theorem parse1_c (s : List UInt8) (w : World) : Fc Tryz.prog 120 [.string (strY s)] w fun v w' => v = .tuple #[.string (strY s), .int .i64 0] ∧ St [] w w' [] := by
  refine fc_i TB_ok Tryz.func120 rfl (by kernel_rfl) ?_
  have hS := Sf.refl w
  repeat ((conv => whnf); first | (apply q_i; focus (intro w1 hS; (conv => whnf); first | exact ⟨rfl, rfl⟩)) | (refine nw_f hS ?_; intro b w1 hS) | refine as_i hS ?_ | refine as_i (hS.subs (List.nil_sublist _) sb9) ?_ | refine as_i (hS.subs (List.Sublist.refl _) sb9) ?_ | refine bar_f hS ?_ | (refine dr9 hS ?_; intro w1 hS) | refine br_t (by assumption) ?_ | refine br_f (by assumption) ?_)
  exact ⟨rfl, hS.nil⟩
def parseT (p : List UInt8) : List (List UInt8) × Int × Option (List UInt8) := readT 36 plainL p
theorem parse_c (p : List UInt8) (hp : p.length ≤ 4611686018427387904) (w : World) : Fc Tryz.prog 99 [.string (strY p)] w fun v w' => ∃ A c Lv, v = .tuple #[.slice A (parseT p).1.length c, .int .i64 (parseT p).2.1] ∧
    Sl 9 1 (.slice A (parseT p).1.length c) (parseT p).1.length (flat encT (parseT p).1) Lv ∧ St [] w w' Lv := by
  refine fc_i TB_ok Tryz.func99 rfl (by kernel_rfl) ?_
  have hS := Sf.refl w
  have hr := fun w => read_c p hp 36 (by decide) (.func 120) #[] #[] [] (fun _ => []) plainL w (St.refl w) (fun s w' _ _ => Cv.of_fc ((parse1_c s w').mono fun v w'' h => h))
  repeat ((conv => whnf); first | (apply q_i; focus (intro w1 hS; (conv => whnf); first | exact ⟨rfl, rfl⟩)) | (refine nw_f hS ?_; intro b w1 hS) | refine as_i hS ?_ | refine as_i (hS.subs (List.nil_sublist _) sb9) ?_ | refine as_i (hS.subs (List.Sublist.refl _) sb9) ?_ | refine bar_f hS ?_ | (refine dr9 hS ?_; intro w1 hS) | refine br_t (by assumption) ?_ | refine br_f (by assumption) ?_)
  refine fc_m (hr _) ?_
  rintro v w1 ⟨A, c, Lv, rfl, hv, hS'⟩
  have e : cbL [] (fun _ => []) (readT 36 plainL p).2.2 = [] := by cases (readT 36 plainL p).2.2 <;> rfl
  rw [e] at hS'
  replace hS := hS.callF hS'
  repeat ((conv => whnf); first | (apply q_i; focus (intro w1 hS; (conv => whnf); first | exact ⟨rfl, rfl⟩)) | (refine nw_f hS ?_; intro b w1 hS) | refine as_i hS ?_ | refine as_i (hS.subs (List.nil_sublist _) sb9) ?_ | refine as_i (hS.subs (List.Sublist.refl _) sb9) ?_ | refine bar_f hS ?_ | (refine dr9 hS ?_; intro w1 hS) | refine br_t (by assumption) ?_ | refine br_f (by assumption) ?_)
  exact ⟨A, c, Lv, rfl, hv, by simpa using hS.fr (List.sublist_append_left _ _)⟩
theorem _root_.Go.RV.St.open {Lx : LM} {w w2 : World} (h0 : St (keys Lx) w w Lx) (h : St [] w w2 []) : St (keys Lx) w w2 Lx := h0.call0 h
end Go.RV.C04

set_option maxRecDepth 20000
set_option linter.unusedVariables false
set_option linter.unusedSimpArgs false
namespace Go.RV
open Go Go.Proofs

/-- a sibling: who, which, what -/
structure Sc where
  r : Int
  n : Int
  d : Bool
  v : List UInt8
def lessC (a b : Sc) : Bool := decide (a.n < b.n) || (a.n == b.n && decide (a.r < b.r))
def risesC : List Sc → Bool
  | [] => true
  | x :: r => (match r with
    | [] => true
    | y :: _ => lessC x y) && risesC r
def checkC (f : Nat → Int) (xs : List Sc) : Bool := mayVB f && (decide (xs.length ≤ 8) && (xs.all (fun x => hasB f x.r x.n) && risesC xs))
def namedB (p : List UInt8) : Bool := decide ((C04.parseT p).2.1 = 0) && decide (0 < (C04.parseT p).1.length)
def num2 (f : Nat → Int) : Nat → List UInt8
  | 0 => []
  | k+1 => if 0 < f k then num2 f k ++ be (f k) 2 else num2 f k
def ctxT (f : Nat → Int) : List UInt8 := be (bitsN f 8) 1 ++ num2 f 8
def num1 (s : RS) : Int := numF 0 (fixedR s (1 : Nat)).1
def aft1 (s : RS) : RS := (fixedR s (1 : Nat)).2
def tk2 (b : Int) (s : RS) : Nat → RS × (Nat → Int)
  | 0 => (s, zeroF)
  | k+1 => if bitB b k then ((fixedR (tk2 b s k).1 (2 : Nat)).2, upd (tk2 b s k).2 k (numF 0 (fixedR (tk2 b s k).1 (2 : Nat)).1)) else tk2 b s k
def ctxR (s : RS) : RS × (Nat → Int) := tk2 (num1 s) (aft1 s) 8
end Go.RV


set_option maxRecDepth 20000
set_option linter.unusedVariables false
set_option linter.unusedSimpArgs false
namespace Go.RV
open Go Go.Proofs

theorem tk2_err {s : RS} (k : Nat) : tk2 0 s k = (s, zeroF) := by
  induction k with
  | zero => rfl
  | succ k ih =>
    have hb : bitB 0 k = false := by
      unfold bitB
      rw [Int.zero_ediv]
      rfl
    rw [tk2, hb, if_neg (by decide), ih]
section
variable {s : RS} (h : s.e ≠ 0)
include h
end
theorem tk2_bound (b : Int) (s : RS) : ∀ i j, 0 ≤ (tk2 b s i).2 j ∧ (tk2 b s i).2 j ≤ 65535
  | 0, j => by show 0 ≤ (0 : Int) ∧ (0 : Int) ≤ _; decide
  | i+1, j => by
    have ih := tk2_bound b s i j
    rw [tk2]
    split
    · simp only [upd]
      split
      · have := numF_lt (tk2 b s i).1 2
        simp only [show (256 : Int) ^ 2 = 65536 from by decide] at this
        omega
      · exact ih
    · exact ih
def x2 (f : Nat → Int) (i : Nat) : List UInt8 := if 0 < f i then be (f i) 2 else []
theorem num2_x (f : Nat → Int) (k : Nat) : num2 f (k + 1) = num2 f k ++ x2 f k := by
  show (if 0 < f k then num2 f k ++ be (f k) 2 else num2 f k) = _
  unfold x2
  split <;> simp
def k2 (f : Nat → Int) (rest : List UInt8) : Nat → List UInt8
  | 0 => rest
  | k+1 => x2 f (7 - k) ++ k2 f rest k
theorem num_k2 (f : Nat → Int) (rest : List UInt8) : ∀ i, i ≤ 8 → num2 f i ++ k2 f rest (8 - i) = k2 f rest 8
  | 0, _ => by simp [num2]
  | i+1, h => by
    have ih := num_k2 f rest i (by omega)
    rw [← ih, num2_x, show 8 - i = (8 - (i + 1)) + 1 from by omega, k2, show 7 - (8 - (i + 1)) = i from by omega, List.append_assoc]
theorem tk2_back (f : Nat → Int) (hf : ∀ j, j < 8 → 0 ≤ f j ∧ f j ≤ 65535) (rest : List UInt8) : ∀ i, i ≤ 8 → tk2 (bitsN f 8) ⟨k2 f rest 8, 0⟩ i = (⟨k2 f rest (8 - i), 0⟩, fun j => if j < i then f j else 0)
  | 0, _ => by
    show (_, _) = (_, _)
    congr 2
  | i+1, h => by
    have ih := tk2_back f hf rest i (by omega)
    have hfi := hf i (by omega)
    rw [tk2, ih, bitsN_bit f 8 i (by omega)]
    simp only
    rw [show 8 - i = (8 - (i + 1)) + 1 from by omega, k2, show 7 - (8 - (i + 1)) = i from by omega]
    have hu : ∀ x, x = f i → upd (fun j => if j < i then f j else 0) i x = fun j => if j < i + 1 then f j else 0 := fun x hx => updJ (h := f) (f := fun _ => 0) hx
    by_cases hp : 0 < f i
    · rw [x2, if_pos hp, fixedR_all (by rw [be_len])]
      simp only [hp, decide_true, if_true]
      rw [hu _ (by rw [numF_be2 hfi.1]; omega)]
    · have h0 : f i = 0 := by omega
      rw [x2, if_neg hp]
      simp only [hp, decide_false, Bool.false_eq_true, if_false, List.nil_append]
      rw [← hu 0 h0.symm]
      congr 1
      funext j
      unfold upd
      by_cases e : j = i
      · subst e; simp
      · simp [e]
theorem first1 {n : Int} (h0 : 0 ≤ n) (h1 : n < 256) (rest : List UInt8) : num1 ⟨be n 1 ++ rest, 0⟩ = n ∧ aft1 ⟨be n 1 ++ rest, 0⟩ = ⟨rest, 0⟩ := by
  unfold num1 aft1
  rw [fixedR_all (by rw [be_len])]
  refine ⟨?_, rfl⟩
  rw [numF_be1 h0]
  omega
theorem ctx_back (f : Nat → Int) (hf : ∀ j, j < 8 → 0 ≤ f j ∧ f j ≤ 65535) (rest : List UInt8) : ctxR ⟨ctxT f ++ rest, 0⟩ = (⟨rest, 0⟩, fun j => if j < 8 then f j else 0) := by
  have hb := bitsN_lt f 8
  obtain ⟨h1, h2⟩ := first1 hb.1 hb.2 (num2 f 8 ++ rest)
  unfold ctxR ctxT
  rw [List.append_assoc, h1, h2, show num2 f 8 ++ rest = k2 f rest 8 from num_k2 f rest 8 (Nat.le_refl _), tk2_back f hf rest 8 (Nat.le_refl _)]
  rfl
theorem mayVB_le {f : Nat → Int} (h : mayVB f = true) : ∀ j, j < 8 → f j ≤ 65535 := by
  intro j hj
  unfold mayVB at h
  have := anyJ_false.1 (by simpa using h) j hj
  have := of_decide_eq_false this
  omega
theorem hasB_dot {f : Nat → Int} {r n : Int} (h : hasB f r n = true) : r < 8 ∧ 1 ≤ n ∧ n ≤ 65535 := by
  unfold hasB mayDotB at h
  simp only [Bool.and_eq_true, decide_eq_true_eq] at h
  omega
theorem checkC_parts {f : Nat → Int} {xs : List Sc} (h : checkC f xs = true) : mayVB f = true ∧ xs.length ≤ 8 ∧ ∀ x ∈ xs, hasB f x.r x.n = true := by
  unfold checkC at h
  simp only [Bool.and_eq_true, decide_eq_true_eq, List.all_eq_true] at h
  exact ⟨h.1, h.2.1, h.2.2.1⟩
theorem namedB_len {p : List UInt8} (h : namedB p = true) : p.length ≤ 36 := by
  unfold namedB at h
  simp only [Bool.and_eq_true, decide_eq_true_eq] at h
  have h1 := h.1
  unfold C04.parseT C04.readT at h1
  split at h1
  · exact absurd h1 (by decide)
  · omega
end Go.RV


set_option maxRecDepth 20000
set_option linter.unusedVariables false
set_option linter.unusedSimpArgs false
namespace Go.RV
open Go Go.Proofs

theorem ord_lessC (a b : Sc) : decide (0 ≤ ordI a.r a.n b.r b.n) = !lessC a b := ord_less ⟨a.r, a.n, []⟩ ⟨b.r, b.n, []⟩
theorem risesC_iff : ∀ xs : List Sc, risesC xs = true ↔ ∀ j (h : j + 1 < xs.length), lessC xs[j] xs[j + 1] = true
  | [] => by simp [risesC]
  | [x] => by simp [risesC]
  | x :: y :: r => by
    have ih := risesC_iff (y :: r)
    rw [risesC, Bool.and_eq_true, ih]
    constructor
    · rintro ⟨h1, h2⟩ j hj
      cases j with
      | zero => exact h1
      | succ j => exact h2 j (by simpa using hj)
    · intro h
      exact ⟨h 0 (by simp), fun j hj => h (j + 1) (by simpa using hj)⟩
def okAtC (f : Nat → Int) (xs : List Sc) (j : Nat) : Prop := ∀ h : j < xs.length, hasB f xs[j].r xs[j].n = true ∧ ∀ h0 : 0 < j, lessC (xs[j - 1]'(by omega)) xs[j] = true
theorem checkC_iff (f : Nat → Int) (xs : List Sc) : checkC f xs = true ↔ mayVB f = true ∧ xs.length ≤ 8 ∧ ∀ j, j < xs.length → okAtC f xs j := by
  unfold checkC okAtC
  simp only [Bool.and_eq_true, decide_eq_true_eq, List.all_eq_true, risesC_iff]
  constructor
  · rintro ⟨h1, h2, h3, h4⟩
    refine ⟨h1, h2, fun j _ hj => ⟨h3 _ (List.getElem_mem hj), fun h0 => ?_⟩⟩
    obtain ⟨k, rfl⟩ : ∃ k, j = k + 1 := ⟨j - 1, by omega⟩
    exact h4 k hj
  · rintro ⟨h1, h2, h3⟩
    refine ⟨h1, h2, fun x hx => ?_, fun j hj => ?_⟩
    · obtain ⟨j, hj, rfl⟩ := List.getElem_of_mem hx
      exact (h3 j hj hj).1
    · exact (h3 (j + 1) hj hj).2 (by omega)
end Go.RV


set_option maxRecDepth 20000
set_option linter.unusedVariables false
set_option linter.unusedSimpArgs false
namespace Go.RV
open Go Go.Proofs Go.RowKit

theorem idxV {P : Program} {T : Tab} (hT : TabOk P T) {t e : TypeId} (hu : P.underlying t = some (.array 8 e)) (he : P.underlying e = some (.int .u32)) (hs : tsz T e = some 1) {f : Nat → Int} {i : Nat} (hi : i < 8) {w : World} {K : Value → World → Prop} (k : K (.int .u32 (f i)) w) :
    SemN P (Instr.index t (.agg (vecF f).toArray) (.int .i64 (i : Int))) w K := by
  refine ⟨SemW.of_run (a := .int .u32 (f i)) (w' := w) ?_ k⟩
  unfold Instr.index
  have hp : (part e (vecF f).toArray (i * 1)).run P w = .ok (.int .u32 (f i)) w := part_plain ⟨_, he, by simp, by simp⟩ (by simpa using vget (f := f) hi (by omega))
  have hlt : 0 ≤ (i : Int) ∧ (i : Int) < ((8 : Nat) : Int) := by omega
  simp only [Sem.run_bind, asIntOf, Sem.run_pure, Result.andThen_ok, run_underlying hu, if_pos hlt, run_sizeOf_ok hT hs, Int.toNat_natCast, hp]
theorem idxVec {f : Nat → Int} {i : Nat} (hi : i < 8) {w : World} {K : Value → World → Prop} (k : K (.int .u32 (f i)) w) :
    SemN Tryz.prog (Instr.index 37 (.agg (vecF f).toArray) (.int .i64 (i : Int))) w K := idxV TB_ok Tryz.underlying37 Tryz.underlying32 rfl hi k
theorem num2_len (f : Nat → Int) : ∀ k, (num2 f k).length ≤ 2 * k
  | 0 => Nat.le_refl _
  | k+1 => by
    have := num2_len f k
    unfold num2
    split
    · rw [List.length_append, be_len]; omega
    · omega
end Go.RV


set_option maxRecDepth 20000
set_option linter.unusedVariables false
set_option linter.unusedSimpArgs false
namespace Go.RV
open Go Go.Proofs Go.RowKit

theorem ctxT_len (f : Nat → Int) : (ctxT f).length ≤ 17 := by
  have := num2_len f 8
  unfold ctxT
  rw [List.length_append, be_len]
  omega
section
variable {M : List Nat} {w0 w : World} {F r : LM} {a b c x : Nat × Obj}
end
theorem w8u_c (bw : Nat) (bs : List UInt8) (L : LM) (hW : Wr bw bs L) (n : Int) (h0 : 0 ≤ n) (h1 : n < 256) (w : World) (hS : St (keys L) w w L) (hn : bs.length ≤ 70368744177664) :
    Fc Tryz.prog 63 [.pointer (some ⟨bw, 0, none⟩), .int .u8 (IntKind.u8.wrap n)] w fun v w' => ∃ L', Wr bw (bs ++ be n 1) L' ∧ St (keys L) w w' L' := by
  rw [wrap_u8 h0 h1]
  exact w8_c bw bs L hW n h0 (by omega) w hS hn
theorem w16u_c (bw : Nat) (bs : List UInt8) (L : LM) (hW : Wr bw bs L) (n : Int) (h0 : 0 ≤ n) (h1 : n < 65536) (w : World) (hS : St (keys L) w w L) (hn : bs.length ≤ 70368744177664) :
    Fc Tryz.prog 68 [.pointer (some ⟨bw, 0, none⟩), .int .u16 (IntKind.u16.wrap n)] w fun v w' => ∃ L', Wr bw (bs ++ be n 2) L' ∧ St (keys L) w w' L' := by
  rw [wrap_u16_mod, Int.emod_eq_of_lt h0 h1]
  exact w16_c bw bs L hW n h0 (by omega) w hS hn
end Go.RV


set_option maxRecDepth 20000
set_option linter.unusedVariables false
set_option linter.unusedSimpArgs false
namespace Go.RV
open Go Go.Proofs Go.RowKit

theorem strY_take (s : List UInt8) (k : Nat) : (strY s).extract 0 k = strY (s.take k) := by rw [strY_extract, List.drop_zero]
section
variable {M : List Nat} {w0 w : World} {F r : LM} {a b c x : Nat × Obj}
end
end Go.RV

set_option maxRecDepth 20000
set_option linter.unusedVariables false
set_option linter.unusedSimpArgs false
namespace Go.RV
open Go Go.Proofs Go.RowKit

theorem bitsN_cg {f g : Nat → Int} : ∀ k, (∀ j, j < k → f j = g j) → bitsN f k = bitsN g k
  | 0, _ => rfl
  | k+1, h => by
    have ih := bitsN_cg k (fun j hj => h j (by omega))
    unfold bitsN
    rw [ih, h k (by omega)]
theorem num2_cg {f g : Nat → Int} : ∀ k, (∀ j, j < k → f j = g j) → num2 f k = num2 g k
  | 0, _ => rfl
  | k+1, h => by
    have ih := num2_cg k (fun j hj => h j (by omega))
    unfold num2
    rw [ih, h k (by omega)]
theorem ctxT_cg {f g : Nat → Int} (h : ∀ j, j < 8 → f j = g j) : ctxT f = ctxT g := by
  unfold ctxT
  rw [bitsN_cg 8 h, num2_cg 8 h]
theorem hasB_cg {f g : Nat → Int} (h : ∀ j, j < 8 → f j = g j) {r n : Int} (hr : 0 ≤ r) : hasB f r n = hasB g r n := by
  unfold hasB
  by_cases h8 : r < 8
  · rw [h r.toNat (by omega)]
  · have : mayDotB r n = false := by unfold mayDotB; rw [decide_eq_false h8]; rfl
    rw [this]; rfl
theorem checkC_cg {f g : Nat → Int} (h : ∀ j, j < 8 → f j = g j) {xs : List Sc} (hx : ∀ x ∈ xs, 0 ≤ x.r) : checkC f xs = checkC g xs := by
  unfold checkC
  rw [mayVB_congr h]
  congr 3
  rw [Bool.eq_iff_iff, List.all_eq_true, List.all_eq_true]
  exact ⟨fun q x hm => by rw [← hasB_cg h (hx x hm)]; exact q x hm, fun q x hm => by rw [hasB_cg h (hx x hm)]; exact q x hm⟩
end Go.RV

set_option maxRecDepth 20000
set_option linter.unusedVariables false
set_option linter.unusedSimpArgs false
namespace Go.RV.C04
open Go Go.Proofs Go.RowKit

abbrev Nm := List (List UInt8)
theorem encT_one (s : List UInt8) : ∀ y ∈ encT s, one y = true := by
  intro y hy
  simp [encT] at hy
  subst hy
  rfl
theorem flatT_one (l : Nm) : ∀ y ∈ flat encT l, one y = true := by
  intro y hy
  obtain ⟨x, _, h⟩ := List.mem_flatMap.1 hy
  exact encT_one x y h
theorem flatT_len (l : Nm) : (flat encT l).length = l.length * 1 := flat_length encT_len l
/-- the first k of a slice -/
theorem _root_.Go.RV.Rd.first {A : Option Addr} {l : Nm} {w : World} (hR : Rd w A (flat encT l)) (k : Nat) : Rd w A (flat encT (l.take k)) := by
  rcases hR with h | ⟨b, off, hA, h⟩
  · left
    have e : flat encT l = flat encT (l.take k) ++ flat encT (l.drop k) := by rw [← flat_append, List.take_append_drop]
    rw [e] at h
    exact (List.append_eq_nil_iff.1 h).1
  · right
    refine ⟨b, off, hA, fun j v hj => h j v ?_⟩
    have e : flat encT l = flat encT (l.take k) ++ flat encT (l.drop k) := by rw [← flat_append, List.take_append_drop]
    rw [e, List.getElem?_append_left (List.getElem?_eq_some_iff.1 hj).1]
    exact hj
theorem _root_.Go.RV.Rd.part {α : Type} {enc : α → List Value} {sz : Nat} {w : World} {A : Option Addr} {xs : List α} (henc : ∀ x, (enc x).length = sz) (hR : Rd w A (flat enc xs)) {m l : Nat} (hm : xs.length ≤ m) : Rd w (sliA A m l sz) (flat enc (xs.drop l)) := by
  by_cases hl : l < xs.length
  · have hml : m ≠ l := by omega
    rcases hR with h | ⟨b, off, rfl, h⟩
    · left
      have : flat enc xs = flat enc (xs.take l) ++ flat enc (xs.drop l) := by rw [← flat_append, List.take_append_drop]
      rw [this] at h
      exact (List.append_eq_nil_iff.1 h).2
    · right
      refine ⟨b, off + l * sz, by unfold sliA; rw [if_neg hml]; show some ((⟨b, off, none⟩ : Addr).add _) = _; rw [add_none], fun j v hj => ?_⟩
      have e : flat enc xs = flat enc (xs.take l) ++ flat enc (xs.drop l) := by rw [← flat_append, List.take_append_drop]
      have hlen : (flat enc (xs.take l)).length = l * sz := by rw [flat_length henc, List.length_take, Nat.min_eq_left (by omega)]
      have := h (l * sz + j) v (by rw [e, List.getElem?_append_right (by omega), hlen, show l * sz + j - l * sz = j from by omega]; exact hj)
      rw [← this, Nat.add_assoc]
  · left
    rw [List.drop_eq_nil_of_le (by omega)]
    rfl
end Go.RV.C04

set_option maxRecDepth 20000
set_option linter.unusedVariables false
set_option linter.unusedSimpArgs false
namespace Go.RV.C04
open Go Go.Proofs Go.RowKit

/-- a text at a byte -/
def partsC (c : UInt8) : List UInt8 → Nm
  | [] => [[]]
  | b :: r => if b = c then [] :: partsC c r else match partsC c r with
    | [] => [[b]]
    | x :: xs => (b :: x) :: xs
theorem partsC_ne (c : UInt8) (l : List UInt8) : partsC c l ≠ [] := by
  cases l with
  | nil => simp [partsC]
  | cons b r =>
    unfold partsC
    split
    · simp
    · split <;> simp
theorem partsC_slash : ∀ l, partsC 47 l = partsP l
  | [] => rfl
  | b :: r => by
    rw [partsC, partsP, partsC_slash r]
    by_cases h : b = 47
    · rw [if_pos h, if_pos h]
    · rw [if_neg h, if_neg h]; cases partsP r <;> rfl
theorem partsC_none {c : UInt8} : ∀ {l : List UInt8}, c ∉ l → partsC c l = [l]
  | [], _ => rfl
  | b :: r, h => by
    rw [List.mem_cons, not_or] at h
    rw [partsC, if_neg (fun e => h.1 e.symm), partsC_none h.2]
theorem partsC_at {c : UInt8} : ∀ {l r : List UInt8}, c ∉ l → partsC c (l ++ c :: r) = l :: partsC c r
  | [], r, _ => by simp [partsC]
  | b :: l, r, h => by
    rw [List.mem_cons, not_or] at h
    rw [List.cons_append, partsC, if_neg (fun e => h.1 e.symm), partsC_at h.2]
/-- where Cut stands: i, from, what it has cut -/
def CutI (c : UInt8) (l : List UInt8) (i fr : Nat) (o : Nm) : Prop :=
  o.length ≤ i ∧ ((i ≤ l.length ∧ fr ≤ i ∧ o ++ partsC c (l.drop fr) = partsC c l ∧ c ∉ (l.take i).drop fr) ∨ (i = l.length + 1 ∧ o = partsC c l))
theorem cutI_end {c : UInt8} {l : List UInt8} {fr : Nat} {o : Nm} (h : CutI c l l.length fr o) : fr ≤ l.length ∧ CutI c l (l.length + 1) (l.length + 1) (o ++ [(l.take l.length).drop fr]) := by
  obtain ⟨h0, ⟨h1, h2, h3, h4⟩ | ⟨h1, _⟩⟩ := h
  · rw [List.take_length] at h4 ⊢
    rw [partsC_none h4] at h3
    exact ⟨h2, by simp; omega, .inr ⟨rfl, h3⟩⟩
  · omega
theorem cutI_at {c : UInt8} {l : List UInt8} {i fr : Nat} {o : Nm} (h : CutI c l i fr o) (hi : i < l.length) (hc : l[i] = c) : fr ≤ i ∧ CutI c l (i + 1) (i + 1) (o ++ [(l.take i).drop fr]) := by
  obtain ⟨h0, ⟨h1, h2, h3, h4⟩ | ⟨h1, _⟩⟩ := h
  · have e : l.drop fr = (l.take i).drop fr ++ c :: l.drop (i + 1) := by
      have e1 : l = l.take i ++ c :: l.drop (i + 1) := by
        rw [← hc, List.getElem_cons_drop, List.take_append_drop]
      have e2 : (l.take i).length = i := by rw [List.length_take]; omega
      conv => lhs; rw [e1]
      rw [List.drop_append_of_le_length (by omega)]
    rw [e, partsC_at h4] at h3
    exact ⟨h2, by simp; omega, .inl ⟨by omega, Nat.le_refl _, by rw [← h3]; simp, by simp⟩⟩
  · omega
theorem cutI_on {c : UInt8} {l : List UInt8} {i fr : Nat} {o : Nm} (h : CutI c l i fr o) (hi : i < l.length) (hc : l[i] ≠ c) : CutI c l (i + 1) fr o := by
  obtain ⟨h0, ⟨h1, h2, h3, h4⟩ | ⟨h1, _⟩⟩ := h
  · refine ⟨by omega, .inl ⟨by omega, by omega, h3, ?_⟩⟩
    have e2 : (l.take i).length = i := by rw [List.length_take]; omega
    rw [List.take_succ_eq_append_getElem hi, List.drop_append_of_le_length (by omega), List.mem_append, not_or]
    exact ⟨h4, by simpa using fun e => hc e.symm⟩
  · omega
set_option maxHeartbeats 1000000 in
theorem cutN_c (l : List UInt8) (c : UInt8) (hl : l.length ≤ 1000) (w : World) : Fc Tryz.prog 104 [.string (strY l), .int .u8 (c.toNat : Int)] w fun v w' => ∃ A k Lv, v = .slice A (partsC c l).length k ∧
    Sl 9 1 (.slice A (partsC c l).length k) (partsC c l).length (flat encT (partsC c l)) Lv ∧ St [] w w' Lv := by
  refine fc_i TB_ok Tryz.func104 rfl (by kernel_rfl) ?_
  have hS := Sf.refl w
  have hz := strY_size l
  repeat ((conv => whnf); first | (apply q_i; focus (intro w1 hS; (conv => whnf); first | exact ⟨rfl, rfl⟩)) | (refine nw_f hS ?_; intro b w1 hS) | refine as_i hS ?_ | refine as_i (hS.subs (List.nil_sublist _) sb9) ?_ | refine as_i (hS.subs (List.Sublist.refl _) sb9) ?_ | refine bar_f hS ?_ | (refine dr9 hS ?_; intro w1 hS) | refine br_t (by assumption) ?_ | refine br_f (by assumption) ?_)
  replace hS : Sf [] w _ ([] ++ []) _ := hS
  refine loop_i TB_ok (fun t : Nat × Nat × Value × Nm => [(7, .int .i64 t.1), (6, .int .i64 t.2.1), (5, t.2.2.1)]) (fun t w' => CutI c l t.1 t.2.1 t.2.2.2 ∧ ∃ Lo, Sl 9 1 t.2.2.1 t.2.2.2.length (flat encT t.2.2.2) Lo ∧ Sf [] w w' (Lo ++ []) []) (fun t => l.length + 1 - t.1) (0, 0, .slice none 0 0, []) rfl ⟨⟨Nat.le_refl _, .inl ⟨Nat.zero_le _, Nat.le_refl _, rfl, by simp⟩⟩, [], .nil, hS⟩ ?_
  rintro ⟨i, fr, sl, o⟩ us w2 ⟨hI, Lo, hv, hS⟩
  simp only at hI hv hS ⊢
  obtain ⟨A2, c2, rfl, hv⟩ := hv.open
  have hol := hI.1
  by_cases hle : i ≤ l.length
  · have g1 : decide ((i : Int) ≤ ((strY l).size : Int)) = true := decide_eq_true (by omega)
    have hfr : fr ≤ i := by obtain ⟨_, ⟨_, h2, _⟩ | ⟨h1, _⟩⟩ := hI <;> omega
    have hx : (strY l).extract ((fr : Int)).toNat ((i : Int)).toNat = strY ((l.take i).drop fr) := by rw [strY_extract, Int.toNat_natCast, Int.toNat_natCast]
    by_cases hlt : i < l.length
    · have g2 : ((i : Int) == ((strY l).size : Int)) = false := by rw [beq_eq_false_iff_ne]; omega
      have hsx := byteAt_strY hlt
      replace hsx : byteAt (strY l) ((i : Int)).toNat = (l[i].toNat : Int) := hsx
      by_cases hc : l[i] = c
      · have g3 : (byteAt (strY l) ((i : Int)).toNat == (c.toNat : Int)) = true := by rw [hsx, hc]; simp
        have hI2 := (cutI_at hI hlt hc).2
        repeat ((conv => whnf); first | (apply q_i; focus (intro w1 hS; (conv => whnf); first | exact ⟨rfl, rfl⟩ | ((first | refine ld_f hS 0 rfl rfl ?_ | refine ldA_f hS 0 rfl rfl ?_); (conv => whnf); exact ⟨rfl, rfl⟩) | ((refine .mk ⟨by omega, by omega⟩ ?_); (conv => whnf); exact ⟨rfl, rfl⟩) | ((refine .mk ⟨by omega, by omega⟩ ?_); (conv => whnf); exact ⟨rfl, rfl⟩))) | (refine nw_f hS ?_; intro b w1 hS) | refine as_i hS ?_ | refine as_i (hS.subs (List.nil_sublist _) sb9) ?_ | refine as_i (hS.subs (List.Sublist.refl _) sb9) ?_ | refine bar_f hS ?_ | refine ld_f hS 0 rfl rfl ?_ | refine ldA_f hS 0 rfl rfl ?_ | ((first | refine stN_f hS 0 rfl (lb9 rfl) rfl rfl ?_ | refine stM_f hS 0 rfl (lb9 rfl) rfl ?_); (conv => whnf); intro w1 hS) | refine .mk ⟨by omega, by omega⟩ ?_ | refine .mk ⟨by omega, by omega⟩ ?_ | (refine dr9 hS ?_; intro w1 hS) | refine br_t (by assumption) ?_ | refine br_f (by assumption) ?_)
        rw [hx] at hS
        (conv => whnf)
        refine app_f TB_ok elStr hS hv (show Rd _ _ (flat encT [(l.take i).drop fr]) from hS.rd 0 rfl) (flatT_len _) (flatT_one _) (by simp only [List.length_singleton]; omega) (by simp only [List.length_singleton]; omega) ?_
        intro v' Lo' w6 hv' hS
        obtain ⟨A3, c3, rfl, hv'⟩ := hv'.open
        repeat ((conv => whnf); first | (apply q_i; focus (intro w1 hS; (conv => whnf); first | exact ⟨rfl, rfl⟩ | ((first | refine ld_f hS 0 rfl rfl ?_ | refine ldA_f hS 0 rfl rfl ?_); (conv => whnf); exact ⟨rfl, rfl⟩))) | (refine nw_f hS ?_; intro b w1 hS) | refine as_i hS ?_ | refine as_i (hS.subs (List.nil_sublist _) sb9) ?_ | refine as_i (hS.subs (List.Sublist.refl _) sb9) ?_ | refine bar_f hS ?_ | refine ld_f hS 0 rfl rfl ?_ | refine ldA_f hS 0 rfl rfl ?_ | ((first | refine stN_f hS 0 rfl (lb9 rfl) rfl rfl ?_ | refine stM_f hS 0 rfl (lb9 rfl) rfl ?_); (conv => whnf); intro w1 hS) | (refine dr9 hS ?_; intro w1 hS) | refine br_t (by assumption) ?_ | refine br_f (by assumption) ?_)
        refine ⟨rfl, (i + 1, i + 1, .slice A3 (o.length + 1) c3, o ++ [(l.take i).drop fr]), ?_, ⟨hI2, Lo', ?_, hS.subs (List.Sublist.refl _) (List.nil_sublist _)⟩, by show l.length + 1 - (i + 1) < _; omega⟩
        · rw [wi (n := l.length + 1) (by omega) (by omega)]
          rfl
        · simp only
          rw [List.length_append, flat_append]
          exact hv'
      · have g3 : (byteAt (strY l) ((i : Int)).toNat == (c.toNat : Int)) = false := by
          rw [hsx, beq_eq_false_iff_ne]
          intro e
          exact hc (UInt8.toNat_inj.1 (by omega))
        have hI2 := cutI_on hI hlt hc
        repeat ((conv => whnf); first | (apply q_i; focus (intro w1 hS; (conv => whnf); first | exact ⟨rfl, rfl⟩ | ((first | refine ld_f hS 0 rfl rfl ?_ | refine ldA_f hS 0 rfl rfl ?_); (conv => whnf); exact ⟨rfl, rfl⟩) | ((refine .mk ⟨by omega, by omega⟩ ?_); (conv => whnf); exact ⟨rfl, rfl⟩))) | (refine nw_f hS ?_; intro b w1 hS) | refine as_i hS ?_ | refine as_i (hS.subs (List.nil_sublist _) sb9) ?_ | refine as_i (hS.subs (List.Sublist.refl _) sb9) ?_ | refine bar_f hS ?_ | refine ld_f hS 0 rfl rfl ?_ | refine ldA_f hS 0 rfl rfl ?_ | ((first | refine stN_f hS 0 rfl (lb9 rfl) rfl rfl ?_ | refine stM_f hS 0 rfl (lb9 rfl) rfl ?_); (conv => whnf); intro w1 hS) | refine .mk ⟨by omega, by omega⟩ ?_ | (refine dr9 hS ?_; intro w1 hS) | refine br_t (by assumption) ?_ | refine br_f (by assumption) ?_)
        refine ⟨rfl, (i + 1, fr, .slice A2 o.length c2, o), ?_, ⟨hI2, Lo, hv, hS⟩, by show l.length + 1 - (i + 1) < _; omega⟩
        rw [wi (n := l.length) hlt (by omega)]
        rfl
    · have hil : i = l.length := by omega
      have g2 : ((i : Int) == ((strY l).size : Int)) = true := by rw [beq_iff_eq]; omega
      have hI2 : CutI c l (i + 1) (i + 1) (o ++ [(l.take i).drop fr]) := by rw [hil] at hI ⊢; exact (cutI_end hI).2
      repeat ((conv => whnf); first | (apply q_i; focus (intro w1 hS; (conv => whnf); first | exact ⟨rfl, rfl⟩ | ((first | refine ld_f hS 0 rfl rfl ?_ | refine ldA_f hS 0 rfl rfl ?_); (conv => whnf); exact ⟨rfl, rfl⟩) | ((refine .mk ⟨by omega, by omega⟩ ?_); (conv => whnf); exact ⟨rfl, rfl⟩) | ((refine .mk ⟨by omega, by omega⟩ ?_); (conv => whnf); exact ⟨rfl, rfl⟩))) | (refine nw_f hS ?_; intro b w1 hS) | refine as_i hS ?_ | refine as_i (hS.subs (List.nil_sublist _) sb9) ?_ | refine as_i (hS.subs (List.Sublist.refl _) sb9) ?_ | refine bar_f hS ?_ | refine ld_f hS 0 rfl rfl ?_ | refine ldA_f hS 0 rfl rfl ?_ | ((first | refine stN_f hS 0 rfl (lb9 rfl) rfl rfl ?_ | refine stM_f hS 0 rfl (lb9 rfl) rfl ?_); (conv => whnf); intro w1 hS) | refine .mk ⟨by omega, by omega⟩ ?_ | refine .mk ⟨by omega, by omega⟩ ?_ | (refine dr9 hS ?_; intro w1 hS) | refine br_t (by assumption) ?_ | refine br_f (by assumption) ?_)
      rw [hx] at hS
      (conv => whnf)
      refine app_f TB_ok elStr hS hv (show Rd _ _ (flat encT [(l.take i).drop fr]) from hS.rd 0 rfl) (flatT_len _) (flatT_one _) (by simp only [List.length_singleton]; omega) (by simp only [List.length_singleton]; omega) ?_
      intro v' Lo' w6 hv' hS
      obtain ⟨A3, c3, rfl, hv'⟩ := hv'.open
      repeat ((conv => whnf); first | (apply q_i; focus (intro w1 hS; (conv => whnf); first | exact ⟨rfl, rfl⟩ | ((first | refine ld_f hS 0 rfl rfl ?_ | refine ldA_f hS 0 rfl rfl ?_); (conv => whnf); exact ⟨rfl, rfl⟩))) | (refine nw_f hS ?_; intro b w1 hS) | refine as_i hS ?_ | refine as_i (hS.subs (List.nil_sublist _) sb9) ?_ | refine as_i (hS.subs (List.Sublist.refl _) sb9) ?_ | refine bar_f hS ?_ | refine ld_f hS 0 rfl rfl ?_ | refine ldA_f hS 0 rfl rfl ?_ | ((first | refine stN_f hS 0 rfl (lb9 rfl) rfl rfl ?_ | refine stM_f hS 0 rfl (lb9 rfl) rfl ?_); (conv => whnf); intro w1 hS) | (refine dr9 hS ?_; intro w1 hS) | refine br_t (by assumption) ?_ | refine br_f (by assumption) ?_)
      refine ⟨rfl, (i + 1, i + 1, .slice A3 (o.length + 1) c3, o ++ [(l.take i).drop fr]), ?_, ⟨hI2, Lo', ?_, hS.subs (List.Sublist.refl _) (List.nil_sublist _)⟩, by show l.length + 1 - (i + 1) < _; omega⟩
      · rw [wi (n := l.length + 1) (by omega) (by omega)]
        rfl
      · simp only
        rw [List.length_append, flat_append]
        exact hv'
  · have g1 : decide ((i : Int) ≤ ((strY l).size : Int)) = false := decide_eq_false (by omega)
    obtain ⟨_, ⟨h1, _⟩ | ⟨_, rfl⟩⟩ := hI
    · omega
    repeat ((conv => whnf); first | (apply q_i; focus (intro w1 hS; (conv => whnf); first | exact ⟨rfl, rfl⟩ | ((first | refine ld_f hS 0 rfl rfl ?_ | refine ldA_f hS 0 rfl rfl ?_); (conv => whnf); exact ⟨rfl, rfl⟩))) | (refine nw_f hS ?_; intro b w1 hS) | refine as_i hS ?_ | refine as_i (hS.subs (List.nil_sublist _) sb9) ?_ | refine as_i (hS.subs (List.Sublist.refl _) sb9) ?_ | refine bar_f hS ?_ | refine ld_f hS 0 rfl rfl ?_ | refine ldA_f hS 0 rfl rfl ?_ | ((first | refine stN_f hS 0 rfl (lb9 rfl) rfl rfl ?_ | refine stM_f hS 0 rfl (lb9 rfl) rfl ?_); (conv => whnf); intro w1 hS) | (refine dr9 hS ?_; intro w1 hS) | refine br_t (by assumption) ?_ | refine br_f (by assumption) ?_)
    exact ⟨_, _, Lo, rfl, hv, by simpa using hS.fr (List.Sublist.refl _)⟩
end Go.RV.C04

set_option maxRecDepth 20000
set_option linter.unusedVariables false
set_option linter.unusedSimpArgs false
namespace Go.RV.C04
open Go Go.Proofs Go.RowKit

theorem _root_.Go.RV.Sl.rdH {e sz n c : Nat} {A : Option Addr} {cs : List Value} {Lv : LM} {w : World} (h : Sl e sz (.slice A n c) n cs Lv) (hH : Holds w Lv) : Rd w A cs := by
  cases h with
  | nil => exact .inl rfl
  | blk b cap n cs cur h1 h2 h3 h4 =>
    refine .inr ⟨b, 0, rfl, fun j v hj => ?_⟩
    have hb := hH _ (List.mem_singleton.2 rfl)
    rw [← h4, List.getElem?_take] at hj
    split at hj
    · simp only [World.cell?, hb, Nat.zero_add]
      simpa using hj
    · cases hj
theorem goP_bad (acc : Nm) (s : List UInt8) (r : Nm) (h : checkE s ≠ 0) : (goR plainL acc (s :: r)).1 = [] ∧ (goR plainL acc (s :: r)).2.1 = checkE s := by
  have e1 : (if r.isEmpty then plainL s else (s, 0)) = (s, 0) := by split <;> rfl
  rw [goR, e1]
  simp [h]
theorem goP_deep (acc : Nm) (s : List UInt8) (r : Nm) (h : checkE s = 0) (h4 : acc.length = 4) : (goR plainL acc (s :: r)).1 = [] ∧ (goR plainL acc (s :: r)).2.1 = 3 := by
  have e1 : (if r.isEmpty then plainL s else (s, 0)) = (s, 0) := by split <;> rfl
  rw [goR, e1]
  simp [h, h4]
theorem goP_on (acc : Nm) (s : List UInt8) (r : Nm) (h : checkE s = 0) (h4 : acc.length ≠ 4) : (goR plainL acc (s :: r)).1 = (goR plainL (acc ++ [s]) r).1 ∧ (goR plainL acc (s :: r)).2.1 = (goR plainL (acc ++ [s]) r).2.1 := by
  have e1 : (if r.isEmpty then plainL s else (s, 0)) = (s, 0) := by split <;> rfl
  rw [goR, e1]
  simp only [h, ne_eq, not_true_eq_false, if_false, if_neg h4]
  cases r with
  | nil => simp [goR]
  | cons y t => simp
theorem read_bad (most : Nat) (lst : Lst) (p : List UInt8) (hm : ¬ most < p.length) (h : (partsC 47 p).length < 2 ∨ (partsC 47 p)[0]? ≠ some []) : readT most lst p = ([], 4, none) := by
  unfold readT
  rw [if_neg hm]
  cases p with
  | nil => rfl
  | cons c q =>
    simp only
    by_cases hc : c = 47
    · subst hc
      have h1 := List.length_pos_iff.2 (partsC_ne 47 q)
      simp [partsC] at h
      omega
    · rw [if_pos hc]
theorem read_ok (p : List UInt8) (h : ¬ ((partsC 47 p).length < 2 ∨ (partsC 47 p)[0]? ≠ some [])) : ∃ q, p = 47 :: q ∧ partsC 47 p = [] :: partsP q := by
  cases p with
  | nil => simp [partsC] at h
  | cons c q =>
    by_cases hc : c = 47
    · subst hc
      exact ⟨q, rfl, by rw [partsC, if_pos rfl, partsC_slash]⟩
    · exfalso
      apply h
      right
      rw [partsC, if_neg hc]
      cases partsC 47 q <;> simp
theorem read_go (most : Nat) (lst : Lst) (q : List UInt8) (hm : ¬ most < (47 :: q).length) : readT most lst (47 :: q) = if q = [] then ([], 0, none) else goR lst [] (partsP q) := by
  unfold readT
  rw [if_neg hm]
  cases q <;> simp
theorem parts_len (l : List UInt8) : (partsP l).length ≤ l.length + 1 := by
  induction l with
  | nil => simp [partsP]
  | cons c r ih =>
    rw [partsP]
    split
    · simp; omega
    · cases hp : partsP r with
      | nil => simp
      | cons x xs => rw [hp] at ih; simp at ih ⊢; omega
theorem parts_each (l : List UInt8) : ∀ x ∈ partsP l, x.length ≤ l.length := by
  induction l with
  | nil => simp [partsP]
  | cons c r ih =>
    rw [partsP]
    split
    · intro x hx
      rcases List.mem_cons.1 hx with rfl | hx
      · simp
      · have := ih x hx; simp; omega
    · cases hp : partsP r with
      | nil => simp
      | cons y ys =>
        rw [hp] at ih
        intro x hx
        rcases List.mem_cons.1 hx with rfl | hx
        · have := ih y (by simp); simp; omega
        · have := ih x (by simp [hx]); simp; omega
set_option maxHeartbeats 2000000 in
theorem rparse_c (p : List UInt8) (hp : p.length ≤ 1000) (w : World) : Fc Tryz.prog 77 [.string (strY p)] w fun v w' => ∃ A k Lv, v = .tuple #[.slice A (parseT p).1.length k, .int .i64 (parseT p).2.1] ∧
    (∀ w2, Holds w2 Lv → Rd w2 A (flat encT (parseT p).1)) ∧ St [] w w' Lv := by
  refine fc_i TB_ok Tryz.func77 rfl (by kernel_rfl) ?_
  have hS := Sf.refl w
  have hz := strY_size p
  unfold parseT
  by_cases h36 : 36 < p.length
  · have g1 : decide ((36 : Int) < ((strY p).size : Int)) = true := decide_eq_true (by omega)
    have e : readT 36 plainL p = ([], 3, none) := by unfold readT; rw [if_pos h36]
    rw [e]
    repeat ((conv => whnf); first | (apply q_i; focus (intro w1 hS; (conv => whnf); first | exact ⟨rfl, rfl⟩)) | (refine nw_f hS ?_; intro b w1 hS) | refine as_i hS ?_ | refine as_i (hS.subs (List.nil_sublist _) sb9) ?_ | refine as_i (hS.subs (List.Sublist.refl _) sb9) ?_ | refine bar_f hS ?_ | (refine dr9 hS ?_; intro w1 hS) | refine br_t (by assumption) ?_ | refine br_f (by assumption) ?_)
    exact ⟨none, 0, [], rfl, fun _ _ => .inl rfl, hS.nil⟩
  have g1 : decide ((36 : Int) < ((strY p).size : Int)) = false := decide_eq_false (by omega)
  repeat ((conv => whnf); first | (apply q_i; focus (intro w1 hS; (conv => whnf); first | exact ⟨rfl, rfl⟩)) | (refine nw_f hS ?_; intro b w1 hS) | refine as_i hS ?_ | refine as_i (hS.subs (List.nil_sublist _) sb9) ?_ | refine as_i (hS.subs (List.Sublist.refl _) sb9) ?_ | refine bar_f hS ?_ | (refine dr9 hS ?_; intro w1 hS) | refine br_t (by assumption) ?_ | refine br_f (by assumption) ?_)
  refine fc_m (cutN_c p 47 (by omega) _) ?_
  rintro v w1 ⟨A, k, Lv, rfl, hv, hS'⟩
  replace hS := hS.callF hS'
  have hpl : (partsC 47 p).length ≤ 1001 := by rw [partsC_slash]; have := parts_len p; omega
  have hpe : ∀ x ∈ partsC 47 p, x.length ≤ 1000 := by rw [partsC_slash]; intro x hx; have := parts_each p x hx; omega
  by_cases hbad : (partsC 47 p).length < 2 ∨ (partsC 47 p)[0]? ≠ some []
  · rw [read_bad 36 plainL p h36 hbad]
    generalize partsC 47 p = ps at *
    by_cases h2 : ps.length < 2
    · have g2 : decide ((ps.length : Int) < 2) = true := decide_eq_true (by omega)
      repeat ((conv => whnf); first | (apply q_i; focus (intro w1 hS; (conv => whnf); first | exact ⟨rfl, rfl⟩)) | (refine nw_f hS ?_; intro b w1 hS) | refine as_i hS ?_ | refine as_i (hS.subs (List.nil_sublist _) sb9) ?_ | refine as_i (hS.subs (List.Sublist.refl _) sb9) ?_ | refine bar_f hS ?_ | (refine dr9 hS ?_; intro w1 hS) | refine br_t (by assumption) ?_ | refine br_f (by assumption) ?_)
      exact ⟨none, 0, [], rfl, fun _ _ => .inl rfl, hS.nil⟩
    have g2 : decide ((ps.length : Int) < 2) = false := decide_eq_false (by omega)
    have hlt : 0 < ps.length := by omega
    have hne : ps[0] ≠ [] := by
      rcases hbad with h | h
      · omega
      · rw [List.getElem?_eq_getElem hlt] at h
        exact fun e => h (by rw [e])
    have g3 : (!streq (strY ps[0]) ⟨#[]⟩) = true := by
      rw [show (⟨#[]⟩ : ByteArray) = strY [] from rfl, streq_strY, decide_eq_false hne]; rfl
    obtain ⟨x, off, rfl⟩ := (hv.rdF hS).form (flat_ne encT_len (by omega) hlt)
    repeat ((conv => whnf); first | (apply q_i; focus (intro w1 hS; (conv => whnf); first | exact ⟨rfl, rfl⟩ | ((refine .mk ⟨by omega, by omega⟩ ?_; refine ix_i rfl ?_); (conv => whnf); exact ⟨rfl, rfl⟩) | ((refine ld_el encT_len (hv.rdF hS).at (i := 0) (k := 0) hlt (by omega) rfl (v := .string (strY ps[0])) rfl ?_); (conv => whnf); exact ⟨rfl, rfl⟩))) | (refine nw_f hS ?_; intro b w1 hS) | refine as_i hS ?_ | refine as_i (hS.subs (List.nil_sublist _) sb9) ?_ | refine as_i (hS.subs (List.Sublist.refl _) sb9) ?_ | refine bar_f hS ?_ | (refine .mk ⟨by omega, by omega⟩ ?_; refine ix_i rfl ?_) | refine ld_el encT_len (hv.rdF hS).at (i := 0) (k := 0) hlt (by omega) rfl (v := .string (strY ps[0])) rfl ?_ | (refine dr9 hS ?_; intro w1 hS) | refine br_t (by assumption) ?_ | refine br_f (by assumption) ?_)
    exact ⟨none, 0, [], rfl, fun _ _ => .inl rfl, hS.nil⟩
  obtain ⟨q, rfl, hps⟩ := read_ok p hbad
  rw [read_go 36 plainL q h36]
  have hz2 : (47 :: q).length = q.length + 1 := rfl
  have hq1 := streq_strY (47 :: q) [47]
  generalize partsC 47 (47 :: q) = ps0 at *
  subst hps
  clear hbad
  have hqn := List.length_pos_iff.2 (parts_ne q)
  generalize partsP q = P at *
  have hn0 : (([] : List UInt8) :: P).length = P.length + 1 := rfl
  have g2 : decide (((([] : List UInt8) :: P).length : Int) < 2) = false := decide_eq_false (by omega)
  have hlt0 : 0 < (([] : List UInt8) :: P).length := by omega
  have g3 : (!streq (strY (([] : List UInt8) :: P)[0]) ⟨#[]⟩) = false := by
    rw [show (⟨#[]⟩ : ByteArray) = strY [] from rfl, streq_strY]; simp
  obtain ⟨x, off, rfl⟩ := (hv.rdF hS).form (flat_ne encT_len (by omega) hlt0)
  have hkl := hv.le
  by_cases hq : q = []
  · have g4 : streq (strY (47 :: q)) ⟨#[47]⟩ = true := by rw [show (⟨#[47]⟩ : ByteArray) = strY [47] from rfl, hq1, hq]; simp
    rw [if_pos hq]
    repeat ((conv => whnf); first | (apply q_i; focus (intro w1 hS; (conv => whnf); first | exact ⟨rfl, rfl⟩ | ((refine .mk ⟨by omega, by omega⟩ ?_; refine ix_i rfl ?_); (conv => whnf); exact ⟨rfl, rfl⟩) | ((refine ld_el encT_len (hv.rdF hS).at (i := 0) (k := 0) hlt0 (by omega) rfl (v := .string (strY (([] : List UInt8) :: P)[0])) rfl ?_); (conv => whnf); exact ⟨rfl, rfl⟩))) | (refine nw_f hS ?_; intro b w1 hS) | refine as_i hS ?_ | refine as_i (hS.subs (List.nil_sublist _) sb9) ?_ | refine as_i (hS.subs (List.Sublist.refl _) sb9) ?_ | refine bar_f hS ?_ | (refine .mk ⟨by omega, by omega⟩ ?_; refine ix_i rfl ?_) | (refine ld_el encT_len (hv.rdF hS).at (i := 0) (k := 0) hlt0 (by omega) rfl (v := .string (strY (([] : List UInt8) :: P)[0])) rfl ?_) | (refine dr9 hS ?_; intro w1 hS) | refine br_t (by assumption) ?_ | refine br_f (by assumption) ?_)
    exact ⟨none, 0, [], rfl, fun _ _ => .inl rfl, hS.nil⟩
  have g4 : streq (strY (47 :: q)) ⟨#[47]⟩ = false := by rw [show (⟨#[47]⟩ : ByteArray) = strY [47] from rfl, hq1]; simp [hq]
  rw [if_neg hq]
  generalize hG : goR plainL [] P = G
  repeat ((conv => whnf); first | (apply q_i; focus (intro w1 hS; (conv => whnf); first | exact ⟨rfl, rfl⟩ | ((refine .mk ⟨by omega, by omega⟩ ?_; refine ix_i rfl ?_); (conv => whnf); exact ⟨rfl, rfl⟩) | ((refine ld_el encT_len (hv.rdF hS).at (i := 0) (k := 0) hlt0 (by omega) rfl (v := .string (strY (([] : List UInt8) :: P)[0])) rfl ?_); (conv => whnf); exact ⟨rfl, rfl⟩))) | (refine nw_f hS ?_; intro b w1 hS) | refine as_i hS ?_ | refine as_i (hS.subs (List.nil_sublist _) sb9) ?_ | refine as_i (hS.subs (List.Sublist.refl _) sb9) ?_ | refine bar_f hS ?_ | (refine .mk ⟨by omega, by omega⟩ ?_; refine ix_i rfl ?_) | (refine ld_el encT_len (hv.rdF hS).at (i := 0) (k := 0) hlt0 (by omega) rfl (v := .string (strY (([] : List UInt8) :: P)[0])) rfl ?_) | (refine dr9 hS ?_; intro w1 hS) | refine br_t (by assumption) ?_ | refine br_f (by assumption) ?_)
  refine loop_i TB_ok (fun j : Nat => [(5, .int .i64 ((j + 1 : Nat) : Int))]) (fun j w' => j ≤ P.length ∧ j ≤ 4 ∧ (goR plainL (P.take j) (P.drop j)).1 = G.1 ∧ (goR plainL (P.take j) (P.drop j)).2.1 = G.2.1 ∧ Sf [] w w' (Lv ++ []) []) (fun j => P.length - j) 0 rfl ⟨Nat.zero_le _, Nat.zero_le _, by rw [List.take_zero, List.drop_zero, hG], by rw [List.take_zero, List.drop_zero, hG], hS⟩ ?_
  clear hS
  rintro j us w2 ⟨hj, hj4, q1, q2, hS⟩
  by_cases hlt : j < P.length
  · have g5 : decide (((j + 1 : Nat) : Int) < ((([] : List UInt8) :: P).length : Int)) = true := decide_eq_true (by omega)
    have hlt1 : j + 1 < (([] : List UInt8) :: P).length := by omega
    have hdr : P.drop j = P[j] :: P.drop (j + 1) := List.drop_eq_getElem_cons hlt
    have htl : (P.take j).length = j := by rw [List.length_take]; omega
    have hee : P[j].length ≤ 4611686018427387904 := by have := hpe P[j] (List.mem_cons_of_mem _ (List.getElem_mem hlt)); omega
    rw [hdr] at q1 q2
    repeat ((conv => whnf); first | (apply q_i; focus (intro w1 hS; (conv => whnf); first | exact ⟨rfl, rfl⟩ | ((refine .mk ⟨by omega, by omega⟩ ?_; refine ix_i rfl ?_); (conv => whnf); exact ⟨rfl, rfl⟩) | ((refine ld_el encT_len (hv.rdF hS).at (i := j + 1) (k := 0) hlt1 (by omega) rfl (v := .string (strY P[j])) rfl ?_); (conv => whnf); exact ⟨rfl, rfl⟩))) | (refine nw_f hS ?_; intro b w1 hS) | refine as_i hS ?_ | refine as_i (hS.subs (List.nil_sublist _) sb9) ?_ | refine as_i (hS.subs (List.Sublist.refl _) sb9) ?_ | refine bar_f hS ?_ | (refine .mk ⟨by omega, by omega⟩ ?_; refine ix_i rfl ?_) | refine ld_el encT_len (hv.rdF hS).at (i := j + 1) (k := 0) hlt1 (by omega) rfl (v := .string (strY P[j])) rfl ?_ | (refine dr9 hS ?_; intro w1 hS) | refine br_t (by assumption) ?_ | refine br_f (by assumption) ?_)
    refine fc_m (rcheck_c P[j] hee _) ?_
    rintro v w3 ⟨rfl, hS'⟩
    replace hS := hS.call0 hS'
    by_cases hc : checkE P[j] = 0
    · have g6 : (checkE P[j] != 0) = false := by simp [hc]
      by_cases h4 : j = 4
      · have g7 : decide ((4 : Int) < ((j + 1 : Nat) : Int)) = true := decide_eq_true (by omega)
        obtain ⟨r1, r2⟩ := goP_deep (P.take j) P[j] (P.drop (j + 1)) hc (by omega)
        repeat ((conv => whnf); first | (apply q_i; focus (intro w1 hS; (conv => whnf); first | exact ⟨rfl, rfl⟩)) | (refine nw_f hS ?_; intro b w1 hS) | refine as_i hS ?_ | refine as_i (hS.subs (List.nil_sublist _) sb9) ?_ | refine as_i (hS.subs (List.Sublist.refl _) sb9) ?_ | refine bar_f hS ?_ | (refine dr9 hS ?_; intro w1 hS) | refine br_t (by assumption) ?_ | refine br_f (by assumption) ?_)
        refine ⟨none, 0, [], ?_, fun _ _ => ?_, hS.nil⟩
        · rw [← q1, ← q2, r1, r2]; rfl
        · rw [← q1, r1]; exact .inl rfl
      · have g7 : decide ((4 : Int) < ((j + 1 : Nat) : Int)) = false := decide_eq_false (by omega)
        obtain ⟨r1, r2⟩ := goP_on (P.take j) P[j] (P.drop (j + 1)) hc (by omega)
        have htk : P.take j ++ [P[j]] = P.take (j + 1) := (List.take_succ_eq_append_getElem hlt).symm
        repeat ((conv => whnf); first | (apply q_i; focus (intro w1 hS; (conv => whnf); first | exact ⟨rfl, rfl⟩)) | (refine nw_f hS ?_; intro b w1 hS) | refine as_i hS ?_ | refine as_i (hS.subs (List.nil_sublist _) sb9) ?_ | refine as_i (hS.subs (List.Sublist.refl _) sb9) ?_ | refine bar_f hS ?_ | (refine dr9 hS ?_; intro w1 hS) | refine br_t (by assumption) ?_ | refine br_f (by assumption) ?_)
        refine ⟨rfl, j + 1, ?_, ⟨by omega, by omega, by rw [← q1, r1, htk], by rw [← q2, r2, htk], hS⟩, by omega⟩
        rw [wi (n := 1001) (by omega) (by omega)]
        rfl
    · have g6 : (checkE P[j] != 0) = true := by simp [hc]
      obtain ⟨r1, r2⟩ := goP_bad (P.take j) P[j] (P.drop (j + 1)) hc
      repeat ((conv => whnf); first | (apply q_i; focus (intro w1 hS; (conv => whnf); first | exact ⟨rfl, rfl⟩)) | (refine nw_f hS ?_; intro b w1 hS) | refine as_i hS ?_ | refine as_i (hS.subs (List.nil_sublist _) sb9) ?_ | refine as_i (hS.subs (List.Sublist.refl _) sb9) ?_ | refine bar_f hS ?_ | (refine dr9 hS ?_; intro w1 hS) | refine br_t (by assumption) ?_ | refine br_f (by assumption) ?_)
      refine ⟨none, 0, [], ?_, fun _ _ => ?_, hS.nil⟩
      · rw [← q1, ← q2, r1, r2]; rfl
      · rw [← q1, r1]; exact .inl rfl
  · have g5 : decide (((j + 1 : Nat) : Int) < ((([] : List UInt8) :: P).length : Int)) = false := decide_eq_false (by omega)
    rw [List.take_of_length_le (by omega), List.drop_of_length_le (by omega)] at q1 q2
    replace q1 : P = G.1 := q1
    replace q2 : 0 = G.2.1 := q2
    rw [← q1, ← q2]
    repeat ((conv => whnf); first | (apply q_i; focus (intro w1 hS; (conv => whnf); first | exact ⟨rfl, rfl⟩ | ((refine .mk ⟨by omega, by omega⟩ ?_); (conv => whnf); exact ⟨rfl, rfl⟩))) | (refine nw_f hS ?_; intro b w1 hS) | refine as_i hS ?_ | refine as_i (hS.subs (List.nil_sublist _) sb9) ?_ | refine as_i (hS.subs (List.Sublist.refl _) sb9) ?_ | refine bar_f hS ?_ | refine .mk ⟨by omega, by omega⟩ ?_ | (refine dr9 hS ?_; intro w1 hS) | refine br_t (by assumption) ?_ | refine br_f (by assumption) ?_)
    have hp := (hv.rdF hS).part encT_len (l := 1) (m := k) (by omega)
    refine ⟨sliA (some ⟨x, off, none⟩) k 1 1, k - 1, Lv, ?_, fun w2 hH => ?_, by simpa using hS.fr (List.Sublist.refl _)⟩
    · rfl
    · exact (hv.rdH hH).part encT_len (l := 1) (m := k) (by omega)
end Go.RV.C04

set_option maxRecDepth 20000
set_option linter.unusedVariables false
set_option linter.unusedSimpArgs false
namespace Go.RV
open Go Go.Proofs Go.RowKit

theorem named_c (p : List UInt8) (hp : p.length ≤ 1000) (w : World) : Fc Tryz.prog 42 [.string (strY p)] w fun v w' => v = .bool (namedB p) ∧ St [] w w' [] := by
  refine fc_i TB_ok Tryz.func42 rfl (by kernel_rfl) ?_
  have hS := Sf.refl w
  have hpc := fun w => C04.rparse_c p hp w
  have hn : namedB p = (decide ((C04.parseT p).2.1 = 0) && decide (0 < (C04.parseT p).1.length)) := rfl
  rw [hn]
  generalize C04.parseT p = P at *
  obtain ⟨l, e, o⟩ := P
  simp only at hpc ⊢
  repeat ((conv => whnf); first | (apply q_i; focus (intro w1 hS; (conv => whnf); first | exact ⟨rfl, rfl⟩)) | (refine nw_f hS ?_; intro b w1 hS) | refine as_i hS ?_ | refine as_i (hS.subs (List.nil_sublist _) sb9) ?_ | refine as_i (hS.subs (List.Sublist.refl _) sb9) ?_ | refine bar_f hS ?_ | (refine dr9 hS ?_; intro w1 hS) | refine br_t (by assumption) ?_ | refine br_f (by assumption) ?_)
  refine fc_m (hpc _) ?_
  rintro v w1 ⟨A1, c1, Lv, rfl, hvl, hS'⟩
  replace hS := hS.callF hS'
  by_cases he : e = 0
  · have g : (e == 0) = true := by simp [he]
    repeat ((conv => whnf); first | (apply q_i; focus (intro w1 hS; (conv => whnf); first | exact ⟨rfl, rfl⟩)) | (refine nw_f hS ?_; intro b w1 hS) | refine as_i hS ?_ | refine as_i (hS.subs (List.nil_sublist _) sb9) ?_ | refine as_i (hS.subs (List.Sublist.refl _) sb9) ?_ | refine bar_f hS ?_ | (refine dr9 hS ?_; intro w1 hS) | refine br_t (by assumption) ?_ | refine br_f (by assumption) ?_)
    refine ⟨?_, hS.nil⟩
    rw [decide_eq_true he, Bool.true_and]
    refine congrArg Value.bool ?_
    rw [Bool.eq_iff_iff]
    simp
  · have g : (e == 0) = false := by simp [he]
    rw [decide_eq_false he]
    repeat ((conv => whnf); first | (apply q_i; focus (intro w1 hS; (conv => whnf); first | exact ⟨rfl, rfl⟩)) | (refine nw_f hS ?_; intro b w1 hS) | refine as_i hS ?_ | refine as_i (hS.subs (List.nil_sublist _) sb9) ?_ | refine as_i (hS.subs (List.Sublist.refl _) sb9) ?_ | refine bar_f hS ?_ | (refine dr9 hS ?_; intro w1 hS) | refine br_t (by assumption) ?_ | refine br_f (by assumption) ?_)
    exact ⟨rfl, hS.nil⟩
theorem rless_c (r n r2 n2 : Int) (w : World) : Fc Tryz.prog 79 [dotV r n, dotV r2 n2] w fun v w' => v = .bool (decide (n < n2) || (n == n2 && decide (r < r2))) ∧ St [] w w' [] := by
  refine fc_i TB_ok Tryz.func79 rfl (by kernel_rfl) ?_
  have hS := Sf.refl w
  repeat' ((conv => whnf); first | refine And.intro ?_ ?_ | (apply q_i; focus (intro w1 hS; (conv => whnf); first | exact ⟨rfl, rfl⟩ | ((first | refine ld_f hS 0 rfl rfl ?_ | refine ld_f hS 1 rfl rfl ?_ | refine ldA_f hS 0 rfl rfl ?_ | refine ldA_f hS 1 rfl rfl ?_); (conv => whnf); exact ⟨rfl, rfl⟩) | ((refine br_i (fun _ => ?_) (fun _ => ?_)); (conv => whnf); exact ⟨rfl, rfl⟩))) | (refine nw_f hS ?_; intro b w1 hS) | refine as_i hS ?_ | refine as_i (hS.subs (List.nil_sublist _) sb9) ?_ | refine as_i (hS.subs (List.Sublist.refl _) sb9) ?_ | refine bar_f hS ?_ | refine ld_f hS 0 rfl rfl ?_ | refine ld_f hS 1 rfl rfl ?_ | refine ldA_f hS 0 rfl rfl ?_ | refine ldA_f hS 1 rfl rfl ?_ | ((first | refine stN_f hS 0 rfl (lb9 rfl) rfl rfl ?_ | refine stN_f hS 1 rfl (lb9 rfl) rfl rfl ?_ | refine stM_f hS 0 rfl (lb9 rfl) rfl ?_ | refine stM_f hS 1 rfl (lb9 rfl) rfl ?_); (conv => whnf); intro w1 hS) | (refine br_i (fun _ => ?_) (fun _ => ?_)) | (refine dr9 hS ?_; intro w1 hS) | refine br_t (by assumption) ?_ | refine br_f (by assumption) ?_)
  all_goals first
    | exact hS.nil
    | (refine congrArg Value.bool ?_; simp only [*, Bool.not_true, Bool.not_false, Bool.and_true, Bool.true_and, Bool.false_and, Bool.and_false, Bool.or_true, Bool.true_or, Bool.or_false, Bool.false_or])
end Go.RV


set_option linter.unusedVariables false
set_option linter.unusedSimpArgs false
namespace Go.RV
open Go

abbrev PanR := List PanicEntry → World → Prop
def SemWP (P : Program) {α : Type} (s : Sem α) (w : World) (K : α → World → Prop) (R : PanR) : Prop :=
  match s.run P w with
  | .ok a w' => K a w'
  | .halt (.panic v) w' => R [{ v, recovered := false }] w'
  | .halt _ _ => False
def NextWP (P : Program) (K : Value → World → Prop) (R : PanR) : Next → World → Prop
  | .value v, w => K v w
  | .skip, w => K undef w
  | .enter f args, w => Calls P f args w fun e w' => (∃ v, e = .returned v ∧ K v w') ∨ ∃ ch, e = .panicked ch ∧ R ch w'
  | .round l f tmps asg body, w => RoundIn Fence.wide 0 P l f tmps asg body w fun e w' => ∃ v, e = .returned v ∧ K v w'
  | _, _ => False
theorem NextW.toP {P : Program} {K : Value → World → Prop} {R : PanR} {n : Next} {w : World} (h : NextW P K n w) : NextWP P K R n w := by
  cases n <;> simp only [NextW, NextWP] at h ⊢ <;> first
    | exact h
    | exact h.mono fun e w' hx => .inl hx
theorem SemW.toP {P : Program} {α : Type} {s : Sem α} {w : World} {K K' : α → World → Prop} {R : PanR} (h : SemW P s w K) (hk : ∀ a w', K a w' → K' a w') : SemWP P s w K' R := by
  obtain ⟨a, w', hr, hx⟩ := h.run
  unfold SemWP
  rw [hr]
  exact hk _ _ hx
theorem NextWP.mono {P : Program} {K K' : Value → World → Prop} {R R' : PanR} {n : Next} {w : World} (h : NextWP P K R n w) (hk : ∀ v w', K v w' → K' v w') (hr : ∀ c w', R c w' → R' c w') : NextWP P K' R' n w := by
  cases n <;> simp only [NextWP] at h ⊢ <;> first
    | exact hk _ _ h
    | exact h.mono fun e w' ⟨v, he, hv⟩ => ⟨v, he, hk _ _ hv⟩
    | exact h.mono fun e w' hx => hx.imp (fun ⟨v, he, hv⟩ => ⟨v, he, hk _ _ hv⟩) (fun ⟨c, he, hc⟩ => ⟨c, he, hr _ _ hc⟩)
theorem SemWP.mono {P : Program} {α : Type} {s : Sem α} {w : World} {K K' : α → World → Prop} {R R' : PanR} (h : SemWP P s w K R) (hk : ∀ a w', K a w' → K' a w') (hr : ∀ c w', R c w' → R' c w') : SemWP P s w K' R' := by
  unfold SemWP at h ⊢
  cases hx : s.run P w with
  | ok a w' => rw [hx] at h; exact hk _ _ h
  | halt x w' =>
    rw [hx] at h
    cases x <;> simp only at h ⊢
    exact hr _ _ h

/-- One operation, from what it comes to. -/
theorem wpIn_of_semWP {P : Program} {o : Oper} {fr : Fr} {ds : List Deferred} {w : World} {next : Act → World → Prop} {Q : Exit → Act → World → Prop} {R : PanR} (r : Option Nat) (n : Nat)
    (hd : ∀ c, o.op ≠ .defer c) (h : SemWP P (execOp (evL fr) o) w (NextWP P (fun v w' => next ⟨(putL fr o.dst v).toArray, ds⟩ w') R) R) (hR : ∀ c w', R c w' → Q (.panic c) ⟨fr.toArray, ds⟩ w') :
    o.wpIn (FR r) n P ⟨fr.toArray, ds⟩ w next Q := by
  refine ⟨fun f _ => trivial, ?_⟩
  rw [eval_eq, Oper.semAt_eq _ _ _ hd]
  unfold SemWP at h
  cases hr : (execOp (evL fr) o).run P w with
  | halt x w' =>
    rw [hr] at h
    cases x <;> simp only at h
    exact hR _ _ h
  | ok x w' =>
    rw [hr] at h
    cases x <;> simp only [NextWP] at h <;> simp only [Oper.uponIn] <;> first
      | (rw [put_eq]; exact h)
      | exact ⟨by simp [FR_depth], FR_calls r _ (h.mono fun e w'' hx => by
          rcases hx with ⟨v, he, hv⟩ | ⟨c, he, hc⟩
          · subst he; simp only [put_eq]; exact hv
          · subst he; exact hR _ _ hc)⟩
      | exact ⟨by simp [FR_depth], FR_round r _ _ (h.mono fun e w'' ⟨v, he, hv⟩ => by subst he; simp only [put_eq]; exact hv)⟩

/-- a call that returns, or panics -/
structure Fp (P : Program) (f : FuncId) (args : List Value) (w : World) (K : Value → World → Prop) (R : PanR) : Prop where
  out : SemWP P (callFunc f args.toArray) w (NextWP P K R) R
theorem fp_m {P : Program} {f : FuncId} {args : List Value} {w : World} {R0 K : Value → World → Prop} {R : PanR} (h : Fc P f args w R0) (hk : ∀ v w', R0 v w' → K v w') : Fp P f args w K R := by
  replace h := h.out
  refine ⟨h.toP fun n w' hn => (hn.mono hk).toP⟩
theorem fp_p {P : Program} {f : FuncId} {args : List Value} {w : World} {K0 K : Value → World → Prop} {R0 R : PanR} (h : Fp P f args w K0 R0) (hk : ∀ v w', K0 v w' → K v w') (hr : ∀ c w', R0 c w' → R c w') : Fp P f args w K R := by
  replace h := h.out
  refine ⟨h.mono (fun n w' hn => hn.mono hk hr) hr⟩

def cvKP (P : Program) (fv : Value) (args : List Value) (w : World) (K : Value → World → Prop) (R : PanR) : Prop :=
  match fv with
  | .func (.func g) first cap => appK args cap.toList fun xs => appK first.toList xs fun ys => Fp P g ys w K R
  | _ => Stk "callee"
def xvP (T : Tab) (P : Program) (o : Oper) (fr : Fr) (w : World) (K : Value → World → Prop) (R : PanR) : Prop :=
  match o.op with
  | .call c => match c.callee with
    | .value f => evK fr f fun fv => evsK fr c.args.toList fun args => cvKP P fv args w K R
    | _ => xv T P o fr w K
  | .panic x => evK fr x fun v => match v with
    | .iface t u => R [{ v := .iface t u, recovered := false }] w
    | _ => Stk "panic"
  | _ => xv T P o fr w K

theorem xvP_ok {P : Program} {T : Tab} (hT : TabOk P T) {o : Oper} {fr : Fr} {w : World} {K : Value → World → Prop} {R : PanR} (h : xvP T P o fr w K R) :
    SemWP P (execOp (evL fr) o) w (NextWP P K R) R ∧ ∀ c, o.op ≠ .defer c := by
  have hfall : xv T P o fr w K → SemWP P (execOp (evL fr) o) w (NextWP P K R) R ∧ ∀ c, o.op ≠ .defer c := fun h =>
    ⟨(xv_ok hT h).1.toP fun n w' hn => hn.toP, (xv_ok hT h).2⟩
  unfold xvP at h
  split at h
  · rename_i c ho
    split at h
    · rename_i f hc
      refine ⟨?_, by rw [ho]; intro c hc; cases hc⟩
      have h1 := evsK_ok (evK_ok h)
      unfold cvKP at h1
      split at h1
      · rename_i g first cap hv
        have h2 := (appK_ok (appK_ok h1)).out
        obtain ⟨callee, cargs, argTypes⟩ := c
        simp only at hc hv h2
        subst hc
        have hex : execOp (evL fr) o = (do let d ← resolve (evL fr) ⟨.value f, cargs, argTypes⟩ o.type; invoke d.target d.args) := by
          unfold execOp; rw [ho]
        rw [hex]
        have e : (first.toList ++ (cargs.toList.map (evL fr) ++ cap.toList)).toArray = first ++ cargs.map (evL fr) ++ cap := by
          apply Array.ext'
          simp
        rw [e] at h2
        have hd : resolve (evL fr) ⟨.value f, cargs, argTypes⟩ o.type = Deferred.ofValue (evL fr f) (cargs.map (evL fr)) := rfl
        rw [hd, hv]
        exact h2
      · exact h1.elim
    · exact hfall h
  · rename_i x ho
    refine ⟨?_, by rw [ho]; intro c hc; cases hc⟩
    have h1 := evK_ok h
    split at h1
    · rename_i t u hv
      unfold execOp
      rw [ho]
      unfold SemWP
      simp only [hv]
      exact h1
    · exact h1.elim
  · exact hfall h

noncomputable def xopsP (T : Tab) (P : Program) (R : Fr → PanR) (all : List Oper) (os : List Oper) : Fr → World → (Fr → World → Prop) → Prop :=
  List.rec (motive := fun _ => Fr → World → (Fr → World → Prop) → Prop) (fun fr w K => K fr w)
    (fun o _ ih fr w K => guK all fr o.guard
      (fun fr => xvP T P o fr w (fun v w => putK fr o.dst v fun fr => ih fr w K) (R fr))
      (fun fr => putK fr o.dst undef fun fr => ih fr w K)) os
theorem xopsP_cons (T : Tab) (P : Program) (R : Fr → PanR) (all : List Oper) (o : Oper) (os : List Oper) (fr : Fr) (w : World) (K : Fr → World → Prop) : xopsP T P R all (o :: os) fr w K = guK all fr o.guard
      (fun fr => xvP T P o fr w (fun v w => putK fr o.dst v fun fr => xopsP T P R all os fr w K) (R fr))
      (fun fr => putK fr o.dst undef fun fr => xopsP T P R all os fr w K) := rfl
noncomputable def XP (T : Tab) (P : Program) (r : Option Nat) (c : Code) : Post → Fr → List Deferred → World → Prop :=
  Code.rec (motive := fun _ => Post → Fr → List Deferred → World → Prop)
    (fun Q fr ds w => Q .normal fr ds w)
    (fun id ops draw Q fr ds w => match draw with
      | false => xopsP T P (fun fr c w => Q (.panic c) fr ds w) ops.toList ops.toList fr w fun fr w => Q .normal fr ds w
      | true => Wp P r (.region id ops true) Q fr ds w)
    (fun _ _ iha ihb Q fr ds w => iha (thenQ (fun fr ds w => ihb Q fr ds w) Q) fr ds w)
    (fun c _ _ iha ihb Q fr ds w => condX fr c (fun fr => iha Q fr ds w) (fun fr => ihb Q fr ds w))
    (fun id _ ih Q fr ds w => ih (blockQ id Q) fr ds w)
    (fun c _ Q fr ds w => Wp P r (.loop c) Q fr ds w)
    (fun g ps asg body _ _ Q fr ds w => Wp P r (.rangeFunc g ps asg body) Q fr ds w)
    (fun id Q fr ds w => Q (.exit id) fr ds w)
    (fun _ ih Q fr ds w => ih (scopeQ Q) fr ds w)
    (fun _ Q fr ds w => Q .normal fr ds w)
    (fun l Q fr ds w => Q (.goto l) fr ds w)
    (fun Q fr ds w => Q .ret fr ds w)
    (fun _ _ _ _ _ => Stk "refused") c

section sound
variable {P : Program} {T : Tab} (hT : TabOk P T)
include hT
theorem xopsP_ok {all : List Oper} {ds : List Deferred} {Q : Exit → Act → World → Prop} {R : Fr → PanR} (r : Option Nat) (n : Nat) (hR : ∀ fr c w, R fr c w → Q (.panic c) ⟨fr.toArray, ds⟩ w) : ∀ {os : List Oper} {fr : Fr} {w : World} {K : Fr → World → Prop}, xopsP T P R all os fr w K →
    (∀ fr w, K fr w → Q .normal ⟨fr.toArray, ds⟩ w) → wpListIn (FR r) n P all.toArray Q os ⟨fr.toArray, ds⟩ w
  | [], fr, w, K, h, hq => hq _ _ h
  | o :: os, fr, w, K, h, hq => by
    rw [xopsP_cons] at h
    unfold wpListIn
    rcases guK_ok h with ⟨hw, h1⟩ | ⟨hw, h1⟩
    · simp only [hw, if_true]
      obtain ⟨h2, hd⟩ := xvP_ok hT h1
      exact wpIn_of_semWP r n hd (h2.mono (fun x w' hx => hx.mono (fun v w'' hv => xopsP_ok r n hR (putK_ok hv) hq) (fun c w' h => h)) (fun c w' h => h)) (hR fr)
    · simp only [hw, Bool.false_eq_true, if_false]
      refine ⟨fun f _ => trivial, ?_⟩
      rw [put_eq]
      exact xopsP_ok r n hR (putK_ok h1) hq
/-- **The executor is sound.** -/
theorem XP_ok (r : Option Nat) : ∀ (c : Code) {Q : Post} {fr : Fr} {ds : List Deferred} {w : World}, XP T P r c Q fr ds w → Wp P r c Q fr ds w := by
  intro c
  induction c with
  | skip => intro Q fr ds w h; exact .of fun n => wpIn_skip ⟨fr, ds, rfl, h⟩
  | region id ops draw =>
    intro Q fr ds w h
    cases draw with
    | true => exact h
    | false =>
      refine .of fun n => wpIn_region_list ?_
      have h1 : xopsP T P (fun fr c w => Q (.panic c) fr ds w) ops.toList ops.toList fr w fun fr w => Q .normal fr ds w := h
      have h2 := xopsP_ok (ds := ds) (Q := liftQ Q) hT r n (fun fr c w hk => ⟨fr, ds, rfl, hk⟩) h1 (fun fr w hk => ⟨fr, ds, rfl, hk⟩)
      simpa using h2
  | seq a b iha ihb =>
    intro Q fr ds w h
    refine .of fun n => wpIn_seq ?_
    have h0 : XP T P r a (thenQ (fun fr ds w => XP T P r b Q fr ds w) Q) fr ds w := h
    have h1 := (iha h0).out n
    refine wpIn_mono h1 ?_
    rintro e a' w' ⟨fr', ds', rfl, hq⟩
    cases e with
    | normal => exact (ihb hq).out n
    | _ => exact ⟨fr', ds', rfl, hq⟩
  | cond c a b iha ihb =>
    intro Q fr ds w h
    replace h : condX fr c (fun fr => XP T P r a Q fr ds w) (fun fr => XP T P r b Q fr ds w) := h
    unfold condX at h
    cases c with
    | tmp t =>
      have h2 := getK_ok h
      split at h2
      · rename_i t' ht
        have hev : (Act.mk fr.toArray ds).eval (.tmp t) = .bool t' := by rw [eval_eq]; exact ht
        refine brK_ok h2 ?_ ?_
        · intro hb h3
          subst hb
          have h4 := setK_ok h3
          rw [set_same ht (bool_ne_undef _)] at h4
          exact .of fun n => wpIn_cond_true hev ((iha h4).out n)
        · intro hb h3
          subst hb
          have h4 := setK_ok h3
          rw [set_same ht (bool_ne_undef _)] at h4
          exact .of fun n => wpIn_cond_false hev ((ihb h4).out n)
      · exact h2.elim
    | const v =>
      simp only at h
      split at h
      · refine brK_ok h ?_ ?_
        · intro hb h3
          subst hb
          exact .of fun n => wpIn_cond_true rfl ((iha h3).out n)
        · intro hb h3
          subst hb
          exact .of fun n => wpIn_cond_false rfl ((ihb h3).out n)
      · exact h.elim
    | global g => exact Stk.elim h
    | func f => exact Stk.elim h
  | block id c ih =>
    intro Q fr ds w h
    refine .of fun n => wpIn_block ?_
    have h0 : XP T P r c (blockQ id Q) fr ds w := h
    refine wpIn_mono ((ih h0).out n) ?_
    rintro e a' w' ⟨fr', ds', rfl, hq⟩
    cases e with
    | normal => exact ⟨fr', ds', rfl, hq⟩
    | exit j =>
      simp only [Exit.inBlock]
      simp only [blockQ] at hq
      split at hq
      · rename_i hb
        rw [if_pos (Nat.eq_of_beq_eq_true hb)]
        exact ⟨fr', ds', rfl, hq⟩
      · rename_i hb
        rw [if_neg (Nat.ne_of_beq_eq_false hb)]
        exact ⟨fr', ds', rfl, hq⟩
    | _ => exact ⟨fr', ds', rfl, hq⟩
  | loop c ih => intro Q fr ds w h; exact h
  | rangeFunc g ps asg body iha ihb => intro Q fr ds w h; exact h
  | exit id => intro Q fr ds w h; exact .of fun n => wpIn_exit ⟨fr, ds, rfl, h⟩
  | scope c ih =>
    intro Q fr ds w h
    refine .of fun n => wpIn_scope ?_
    have h0 : XP T P r c (scopeQ Q) fr ds w := h
    refine wpIn_mono ((ih h0).out n) ?_
    rintro e a' w' ⟨fr', ds', rfl, hq⟩
    cases e with
    | goto l => exact Stk.elim hq
    | _ => exact ⟨fr', ds', rfl, hq⟩
  | label l => intro Q fr ds w h; exact .of fun n => wpIn_label ⟨fr, ds, rfl, h⟩
  | goto l => intro Q fr ds w h; exact .of fun n => wpIn_goto ⟨fr, ds, rfl, h⟩
  | ret => intro Q fr ds w h; exact .of fun n => wpIn_ret ⟨fr, ds, rfl, h⟩
  | refuse why => intro Q fr ds w h; exact Stk.elim h
end sound

def retQP (T : Tab) (rs : List ResultVar) (R : Value → World → Prop) (Rp : PanR) : Post := fun e fr ds w =>
  match e with
  | .normal => leaveK ds w fun w => retK T rs fr w fun v => R v w
  | .ret => leaveK ds w fun w => retK T rs fr w fun v => R v w
  | .panic c => ds = [] ∧ Rp c w
  | _ => Stk "left"
section sound
variable {P : Program} {T : Tab} (hT : TabOk P T)
include hT
theorem callsP_i {f : FuncId} {fn : Func} {c : Code} {args : List Value} {w : World} {R : Value → World → Prop} {Rp : PanR} (hf : P.funcs[f]? = some fn) (hb : fn.body = some c)
    (hx : XP T P none c (retQP T fn.results.toList R Rp) (args ++ List.replicate (fn.ntmps - args.length) undef) [] w) :
    Calls P f args.toArray w fun e w' => (∃ v, e = .returned v ∧ R v w') ∨ ∃ ch, e = .panicked ch ∧ Rp ch w' := by
  refine callsIn_wide.1 (callsIn_of_wp_marks (n := 0) hf hb trivial ?_)
  have h1 := (XP_ok hT none c hx).out 0
  have ht : args.toArray ++ Array.replicate (fn.ntmps - args.toArray.size) undef = (args ++ List.replicate (fn.ntmps - args.length) undef).toArray := by
    apply Array.ext'
    simp
  rw [ht]
  refine wpIn_mono h1 ?_
  rintro e a' w' ⟨fr, ds, rfl, hq⟩
  cases e with
  | normal => exact leaveK_ok (leaveK_mono (fun w hk => by obtain ⟨v, hr, hv⟩ := retK_ok (fn := fn) hT hk; exact ⟨v, hr, .inl ⟨v, rfl, hv⟩⟩) hq)
  | ret => exact leaveK_ok (leaveK_mono (fun w hk => by obtain ⟨v, hr, hv⟩ := retK_ok (fn := fn) hT hk; exact ⟨v, hr, .inl ⟨v, rfl, hv⟩⟩) hq)
  | panic ch =>
    obtain ⟨rfl, hp⟩ := hq
    exact .inr ⟨ch, rfl, hp⟩
  | _ => exact Stk.elim hq
omit hT in
theorem fp_of_calls {f : FuncId} {fn : Func} {c : Code} {args : List Value} {w : World} {R : Value → World → Prop} {Rp : PanR} (hf : P.funcs[f]? = some fn) (hb : fn.body = some c) (hn : (fn.name == "runtime.NumGoroutine") = false)
    (h : Calls P f args.toArray w fun e w' => (∃ v, e = .returned v ∧ R v w') ∨ ∃ ch, e = .panicked ch ∧ Rp ch w') : Fp P f args w R Rp := by
  refine ⟨?_⟩
  have hr : (callFunc f args.toArray).run P w = .ok (.enter f args.toArray) w := by
    unfold callFunc
    rw [Sem.run_bind]
    have hp : (Go.program).run P w = .ok P w := rfl
    rw [hp]
    simp only [Result.andThen_ok, hf, hn, Bool.false_eq_true, if_false, hb, Option.isNone_some]
    rfl
  unfold SemWP
  rw [hr]
  exact h
theorem fp_i {f : FuncId} {fn : Func} {c : Code} {args : List Value} {w : World} {R : Value → World → Prop} {Rp : PanR} (hf : P.funcs[f]? = some fn) (hb : fn.body = some c) (hn : (fn.name == "runtime.NumGoroutine") = false)
    (hx : XP T P none c (retQP T fn.results.toList R Rp) (args ++ List.replicate (fn.ntmps - args.length) undef) [] w) : Fp P f args w R Rp :=
  fp_of_calls hf hb hn (callsP_i hT hf hb hx)
/-- **A loop of code that may panic.** 'up s': what the slots hold at the head of a round in state s; 'us': what the other slots hold that the body writes. -/
theorem loopP_i {r : Option Nat} {c : Code} {Q : Post} {fr : Fr} {ds : List Deferred} {w : World} {σ : Type} (up : σ → List (Nat × Value)) (I : σ → World → Prop) (μ : σ → Nat) (s0 : σ)
    (h0 : ovL (wrC c) (fun j => fr.getD j undef) (up s0) 0 fr = fr) (hI : I s0 w)
    (hr : ∀ s us w, I s w → ovK (wrC c) us (up s) 0 fr fun fr' => XP T P r c (fun e fr'' ds' w' => match e with
      | .normal => ds' = ds ∧ ∃ s', ovL (wrC c) (fun j => fr''.getD j undef) (up s') 0 fr = fr'' ∧ I s' w' ∧ μ s' < μ s
      | e => Q e fr'' ds' w') fr' ds w) : Wp P r (.loop c) Q fr ds w := by
  refine .of fun n => ?_
  classical
  let p : Act → World → Nat → Prop := fun a w k => ∃ s us, a = ⟨(ovL (wrC c) us (up s) 0 fr).toArray, ds⟩ ∧ I s w ∧ μ s = k
  let J : Act → World → Prop := fun a w => ∃ k, p a w k
  let m : Act → World → Nat := fun a w => if h : ∃ k, p a w k then Classical.choose (least_of h.choose h.choose_spec) else 0
  have hm : ∀ a w, J a w → p a w (m a w) ∧ ∀ k, p a w k → m a w ≤ k := by
    intro a w h
    have e : m a w = Classical.choose (least_of h.choose h.choose_spec) := dif_pos h
    rw [e]
    exact Classical.choose_spec (least_of h.choose h.choose_spec)
  refine wpIn_loop J m ⟨μ s0, s0, fun j => fr.getD j undef, by rw [h0], hI, rfl⟩ ?_
  intro a w hJ
  obtain ⟨s, us, ha, hs, hk⟩ := (hm a w hJ).1
  have h1 := ovK_ok (hr s us w hs)
  subst ha
  refine wpIn_mono ((XP_ok hT r c h1).out n) ?_
  rintro e a' w' ⟨fr'', ds', rfl, hq⟩
  cases e with
  | normal =>
    obtain ⟨rfl, s', hfr, hI', hlt⟩ := hq
    have hp : p ⟨fr''.toArray, ds'⟩ w' (μ s') := ⟨s', fun j => fr''.getD j undef, by rw [hfr], hI', rfl⟩
    refine ⟨⟨_, hp⟩, ?_⟩
    have := (hm _ _ ⟨_, hp⟩).2 _ hp
    omega
  | _ => exact ⟨fr'', ds', rfl, hq⟩
end sound
def stepDP (T : Tab) (P : Program) (R : Fr → PanR) (all : List Oper) (K : Fr → World → Prop) (ih : (World → Prop) → List Bool → Fr → World → Prop) (S : World → Prop) (ls : List Bool) (fr : Fr) (w : World) : Prop :=
  match findQ T ls all ls 0 with
  | some (i, o) => match isFT T o.op with
    | true => guK all fr o.guard
      (fun fr => Qn T P (fun _ => True) o fr fun v => putK fr o.dst v fun fr => ih S (setB ls i) fr w)
      (fun fr => putK fr o.dst undef fun fr => ih S (setB ls i) fr w)
    | false => guK all fr o.guard
      (fun fr => Qn T P S o fr fun v => putK fr o.dst v fun fr => ih S (setB ls i) fr w)
      (fun fr => putK fr o.dst undef fun fr => ih S (setB ls i) fr w)
  | none => match rdyF ls all ls 0 with
    | [] => K fr w
    | x :: xs => conjK (x :: xs) fun io => guK all fr io.2.guard
      (fun fr => xvP T P io.2 fr w (fun v w' => putK fr io.2.dst v fun fr => match covB io.2 io.1 all.length with
        | true => K fr w'
        | false => match covFB T io.2 io.1 all 0 with
          | true => ih S (setB ls io.1) fr w'
          | false => match barB T all ls io.1 with
            | true => BarS (fun S => ih S (setB ls io.1) fr w') w'
            | false => AndS (S w') (ih S (setB ls io.1) fr w')) (R fr))
      (fun fr => putK fr io.2.dst undef fun fr => match covB io.2 io.1 all.length with
        | true => K fr w
        | false => ih S (setB ls io.1) fr w)
noncomputable def XDP (T : Tab) (P : Program) (R : Fr → PanR) (S : World → Prop) (all : List Oper) (K : Fr → World → Prop) (n : Nat) : List Bool → Fr → World → Prop :=
  Nat.rec (motive := fun _ => (World → Prop) → List Bool → Fr → World → Prop)
    (fun _ ls fr w => match rdyF ls all ls 0 with
      | [] => K fr w
      | _ :: _ => Stk "open")
    (fun _ ih S ls fr w => stepDP T P R all K ih S ls fr w) n S

section
variable {P : Program} {T : Tab} (hT : TabOk P T) {S : World → Prop} {all : List Oper} {ds : List Deferred} {Q : Exit → Act → World → Prop} (r : Option Nat) (n : Nat)
include hT
theorem XDP_ok {R : Fr → PanR} (hn : noDS all.toArray = true) (hA : apartD all.toArray = true) (hQp : ∀ c a d v w, Q (.panic c) (a.put d v) w → Q (.panic c) a w) (hR : ∀ fr c w, R fr c w → Q (.panic c) ⟨fr.toArray, ds⟩ w) {K : Fr → World → Prop} (hK : ∀ fr w, K fr w → Q .normal ⟨fr.toArray, ds⟩ w) :
    ∀ (fuel : Nat) (S : World → Prop) (ls : List Bool) (fr : Fr) (w : World), ls.length = all.length → Closed all.toArray ls.toArray → (S w ∨ DoneF T all ls) → XDP T P R S all K fuel ls fr w → AnyS (freF T all) (ldF T all) P r n all.toArray Q S fuel ls.toArray ⟨fr.toArray, ds⟩ w := by
  intro fuel
  induction fuel with
  | zero =>
    intro S ls fr w hl hcl hS h
    replace h : (match rdyF ls all ls 0 with
      | [] => K fr w
      | _ :: _ => Stk "open") := h
    split at h
    · rename_i he
      refine AnyS.done ?_ (hK _ _ h) S 0
      rw [List.eq_nil_iff_forall_not_mem]
      intro i hi
      obtain ⟨o, ho⟩ := ready_iff.1 hi
      rw [he] at ho
      cases ho
    · exact h.elim
  | succ fuel ih =>
    intro S ls fr w hl hcl hS h
    have hlen : ∀ i, (setB ls i).length = all.length := by
      intro i
      rw [← hl]
      have := congrArg Array.size (setB_ok (ls := ls) (i := i))
      simpa using this
    replace h : stepDP T P R all K (fun S => XDP T P R S all K fuel) S ls fr w := h
    have hcs : ∀ i, i ∈ Region.ready .any all.toArray ls.toArray → Closed all.toArray (setB ls i).toArray := fun i hi => by rw [setB_ok]; exact hcl.add hi
    unfold stepDP at h
    split at h
    · -- what only reads
      rename_i i o hf
      obtain ⟨hm, hq⟩ := findQ_mem hf
      have hr : i ∈ Region.ready .any all.toArray ls.toArray := ready_iff.2 ⟨o, hm⟩
      obtain ⟨j, hj, hoi, _, _⟩ := rdyF_mem.1 hm
      have hj : i = j := by omega
      subst hj
      have hoi' : all.toArray[i]? = some o := by simpa using hoi
      have hL : S w ∨ DoneF T all (setB ls i) := hS.imp id fun h => h.set i
      cases hfr : isFT T o.op with
      | true =>
        simp only [hfr] at h
        rcases guK_ok h with ⟨hw, h1⟩ | ⟨hw, h1⟩
        · obtain ⟨v, hv, hk⟩ := h1.out
          have h2 := ih _ _ _ _ (hlen i) (hcs i hr) hL (putK_ok hk)
          refine AnyS.firstF (oi := o) (v := v) hn hA hoi' (fun c a w hp => hQp c _ _ _ w hp) fuel S ls.toArray _ w hr ?_ ?_
          · refine .inl ⟨hw, fun w' hS' => ?_⟩
            rw [eval_eq]
            obtain ⟨x, w'', hr', hx⟩ := (xv_ok hT (hv w' hS')).1.run
            obtain ⟨u, rfl⟩ := isQ_value hq hr'
            obtain ⟨rfl, rfl⟩ := hx
            exact hr'
          · rw [put_eq, ← setB_ok]
            exact h2
        · have h2 := ih _ _ _ _ (hlen i) (hcs i hr) hL (putK_ok h1)
          refine AnyS.firstF (oi := o) (v := undef) hn hA hoi' (fun c a w hp => hQp c _ _ _ w hp) fuel S ls.toArray _ w hr (.inr ⟨hw, rfl⟩) ?_
          rw [put_eq, ← setB_ok]
          exact h2
      | false =>
        simp only [hfr] at h
        have hfi : freF T all i = false := by
          unfold freF
          rw [hoi]
          exact hfr
        have hldi : ldF T all i = true := by
          unfold ldF
          rw [hoi]
          simp only [isLd, hfr]
          exact hq
        have hSw : S w := by
          rcases hS with h | h
          · exact h
          · exact (not_both (h i hfi) (unlisted hr)).elim
        rcases guK_ok h with ⟨hw, h1⟩ | ⟨hw, h1⟩
        · obtain ⟨v, hv, hk⟩ := h1.out
          have h2 := ih _ _ _ _ (hlen i) (hcs i hr) hL (putK_ok hk)
          refine AnyS.first (oi := o) (v := v) hn hA hoi' hfi hldi (fun c a w hp => hQp c _ _ _ w hp) fuel ls.toArray _ w hcl hr ?_ hSw ?_
          · refine .inl ⟨hw, fun w' hS' => ?_⟩
            rw [eval_eq]
            obtain ⟨x, w'', hr', hx⟩ := (xv_ok hT (hv w' hS')).1.run
            obtain ⟨u, rfl⟩ := isQ_value hq hr'
            obtain ⟨rfl, rfl⟩ := hx
            exact hr'
          · rw [put_eq, ← setB_ok]
            exact h2
        · have h2 := ih _ _ _ _ (hlen i) (hcs i hr) hL (putK_ok h1)
          refine AnyS.first (oi := o) (v := undef) hn hA hoi' hfi hldi (fun c a w hp => hQp c _ _ _ w hp) fuel ls.toArray _ w hcl hr (.inr ⟨hw, rfl⟩) hSw ?_
          rw [put_eq, ← setB_ok]
          exact h2
    · split at h
      · rename_i he
        refine AnyS.done ?_ (hK _ _ h) S _
        rw [List.eq_nil_iff_forall_not_mem]
        intro i hi
        obtain ⟨o, ho⟩ := ready_iff.1 hi
        rw [he] at ho
        cases ho
      · rename_i x xs he
        refine ⟨fun h0 => ?_, fun i hi => ?_⟩
        · have : x.1 ∈ Region.ready .any all.toArray ls.toArray := ready_iff.2 ⟨x.2, by rw [he]; simp⟩
          rw [h0] at this
          cases this
        · obtain ⟨o, hm⟩ := ready_iff.1 hi
          have h1 := conjK_ok h (i, o) (by rw [← he]; exact hm)
          simp only at h1
          obtain ⟨j, hj, hoi, _, _⟩ := rdyF_mem.1 hm
          have hj : i = j := by omega
          subst hj
          have hoi' : all.toArray[i]? = some o := by simpa using hoi
          have hdone : covB o i all.length = true → cov (freF T all) all.toArray i ∧ Region.ready .any all.toArray (ls.toArray.setIfInBounds i true) = [] := by
            intro hc
            have hw := covB_ok hc
            refine ⟨fun oj hoj k hk hne _ => ?_, ?_⟩
            · rw [hoi'] at hoj
              cases hoj
              exact hw k (by simpa using hk) hne
            · rw [List.eq_nil_iff_forall_not_mem]
              intro k hk
              have hu := unlisted hk
              obtain ⟨_, ok, hok, _⟩ := mem_ready.1 hk
              have hklt : k < all.length := by simpa using (Array.getElem?_eq_some_iff.1 hok).1
              by_cases hki : k = i
              · subst hki
                have hk2 : k < ls.length := by omega
                simp at hu
                rw [List.getElem?_set_self hk2] at hu
                cases hu
              · rw [getD_set_ne true (Ne.symm hki)] at hu
                exact not_both (waits_listed hi hoi' (hw k hklt hki)) hu
          unfold wpOpIn
          rw [hoi']
          simp only
          rcases guK_ok h1 with ⟨hw, h2⟩ | ⟨hw, h2⟩
          · simp only [hw, if_true]
            obtain ⟨h3, hd⟩ := xvP_ok hT h2
            refine wpIn_of_semWP r n hd (h3.mono (fun x w' hx => hx.mono (fun v w'' hv => ?_) (fun c w' h => h)) (fun c w' h => h)) (hR fr)
            have h4 := putK_ok hv
            split at h4
            · rename_i hc
              obtain ⟨hc1, hc2⟩ := hdone hc
              exact .inl ⟨.inl hc1, AnyS.done hc2 (hK _ _ h4) S fuel⟩
            · split at h4
              · rename_i hcf
                have hwt := covFB_ok hcf
                refine .inl ⟨.inl fun oj hoj k hk hne hfk => ?_, ?_⟩
                · rw [hoi'] at hoj
                  cases hoj
                  have hk' : k < all.length := by simpa using hk
                  have hf2 : isFT T all[k].op = false := by
                    unfold freF at hfk
                    rw [List.getElem?_eq_getElem hk'] at hfk
                    exact hfk
                  have := hwt k all[k] (List.getElem?_eq_getElem hk') (by omega) hf2
                  rwa [Nat.zero_add] at this
                · rw [← setB_ok]
                  refine ih _ _ _ _ (hlen i) (hcs i hi) (.inr fun k hfk => ?_) h4
                  rw [setB_ok]
                  by_cases hki : k = i
                  · subst hki
                    have hk2 : k < ls.length := by
                      have : k < all.length := (List.getElem?_eq_some_iff.1 hoi).1
                      omega
                    simp [Array.getD, hk2]
                  · rw [getD_set_ne false (Ne.symm hki)]
                    have hk' : k < all.length := by
                      rcases Nat.lt_or_ge k all.length with h | h
                      · exact h
                      · unfold freF at hfk
                        rw [List.getElem?_eq_none h] at hfk
                        cases hfk
                    have hf2 : isFT T all[k].op = false := by
                      unfold freF at hfk
                      rw [List.getElem?_eq_getElem hk'] at hfk
                      exact hfk
                    have := hwt k all[k] (List.getElem?_eq_getElem hk') (by omega) hf2
                    rw [Nat.zero_add] at this
                    exact waits_listed hi hoi' this
              · split at h4
                · rename_i hbar
                  obtain ⟨S', hS', h5⟩ := h4.out
                  refine .inr ⟨barB_ok hbar hl, S', ?_⟩
                  rw [← setB_ok]
                  exact ih _ _ _ _ (hlen i) (hcs i hi) (.inl hS') h5
                · refine .inl ⟨.inr (.inl h4.left), ?_⟩
                  rw [← setB_ok]
                  exact ih _ _ _ _ (hlen i) (hcs i hi) (.inl h4.left) h4.right
          · simp only [hw, Bool.false_eq_true, if_false]
            refine ⟨fun _ _ => trivial, ?_⟩
            rw [put_eq]
            have h4 := putK_ok h2
            split at h4
            · rename_i hc
              obtain ⟨hc1, hc2⟩ := hdone hc
              exact .inl ⟨.inl hc1, AnyS.done hc2 (hK _ _ h4) S fuel⟩
            · refine .inl ⟨.inr (.inr trivial), ?_⟩
              rw [← setB_ok]
              exact ih _ _ _ _ (hlen i) (hcs i hi) (hS.imp id fun h => h.set i) h4

end
theorem drawfP {P : Program} {M : List Nat} {w0 w : World} {F L Ls Fs : LM} {T : Tab} (hT : TabOk P T) {r : Option Nat} {id : Nat} {ops : Array Oper} {Q : Post} {fr : Fr} {ds : List Deferred} (hm : P.follows .mixedOrders = true) (hn : noDS ops = true) (hA : apartD ops = true) (hS : Sf M w0 w F L) (hf : Fs.Sublist F) (hs : Ls.Sublist L)
    (hQ : ∀ c fr fr' w, Q (.panic c) fr ds w → Q (.panic c) fr' ds w)
    (h : ∀ w', Sf M w0 w' F L → XDP T P (fun fr c w => Q (.panic c) fr ds w) (fun w'' => Sf M w0 w'' Fs Ls) ops.toList (fun fr w => Q .normal fr ds w) ops.toList.length (List.replicate ops.toList.length false) fr w') : Wp P r (.region id ops true) Q fr ds w := by
  refine .of fun n => ?_
  have hS' : Sf M w0 { w with drawn := w.drawn + 1 } F L := hS.drew _
  have h1 := XDP_ok (ds := ds) (Q := fun e a w => match e with | .panic c => a.defers = ds ∧ ∃ fr, Q (.panic c) fr ds w | e => liftQ Q e a w) hT r n (by simpa using hn) (by simpa using hA) (by rintro c a d v w ⟨h1, h2⟩; exact ⟨by rw [← h1]; cases d <;> rfl, h2⟩) (R := fun fr c w => Q (.panic c) fr ds w) (fun fr c w hk => ⟨rfl, fr, hk⟩)
    (K := fun fr w => Q .normal fr ds w) (fun fr w hk => ⟨fr, ds, rfl, hk⟩) ops.toList.length (fun w'' => Sf M w0 w'' Fs Ls) (List.replicate ops.toList.length false) fr { w with drawn := w.drawn + 1 } (by simp) (by intro m o hm; simp [Array.getD] at hm) (.inl (hS'.subs hf hs)) (h _ hS')
  have h2 := AnyS.any _ _ _ _ _ h1
  have h3 := wpIn_region_any (id := id) (ops := ops) hm (by simpa using h2)
  refine wpIn_mono h3 fun e a w hq => ?_
  cases e with
  | panic c =>
    obtain ⟨hd, fr', hk⟩ := hq
    refine ⟨a.tmps.toList, a.defers, rfl, ?_⟩
    rw [hd]
    exact hQ c fr' _ _ hk
  | _ => exact hq

end Go.RV

set_option maxRecDepth 20000
set_option linter.unusedVariables false
set_option linter.unusedSimpArgs false
namespace Go.RV
open Go Go.Proofs

structure Va where
  d : Bool
  n : Int
  ks : List Int
def zeroVa : Va := ⟨false, 0, []⟩
/-- a sibling: its dot, its value -/
structure Sv where
  r : Int
  n : Int
  v : Va
structure Rx where
  k : Int
  r : Int
  n0 : Int
  n1 : Int
  n2 : Int
  rk : Int
  ra : Int
  rq : Int
  p : List UInt8
  f : Nat → Int
  xs : List Sv
  vi : Int
  vt : Int
  vc : Int
  v : Va
  g : Nat → Int
  ci : Int
  cb : Int
  cr : Int
  cs : Int
def zeroRx (k : Int) : Rx := ⟨k, 0, 0, 0, 0, 0, 0, 0, [], zeroF, [], 0, 0, 0, zeroVa, zeroF, 0, 0, 0, 0⟩
/-- a sibling, and where its numbers lie -/
structure Sm where
  s : Sv
  A : Option Addr
  c : Nat
def encM (m : Sm) : List Value := [.int .u8 m.s.r, .int .u32 m.s.n, .bool m.s.v.d, .int .i64 m.s.v.n, .slice m.A m.s.v.ks.length m.c]
theorem encM_len (m : Sm) : (encM m).length = 5 := rfl
theorem encM_one (m : Sm) : ∀ y ∈ encM m, one y = true := by
  intro y hy
  simp [encM] at hy
  rcases hy with rfl | rfl | rfl | rfl | rfl <;> rfl
/-- where a record's slices lie -/
structure Hd where
  A : Option Addr
  c : Nat
  B : Option Addr
  e : Nat
def noHd : Hd := ⟨none, 0, none, 0⟩
def recL (x : Rx) (h : Hd) : List Value :=
  [.int .u8 x.k, .int .u8 x.r, .int .u32 x.n0, .int .u32 x.n1, .int .u32 x.n2, .int .u8 x.rk, .int .u32 x.ra, .int .i64 x.rq, .string (strY x.p)] ++ (vecF x.f ++ ([.slice h.A x.xs.length h.c,
    .int .u32 x.vi, .int .u32 x.vt, .int .u8 x.vc, .bool x.v.d, .int .i64 x.v.n, .slice h.B x.v.ks.length h.e] ++ (vecF x.g ++ [.int .u32 x.ci, .int .i64 x.cb, .int .i64 x.cr, .int .i64 x.cs])))
def recV (x : Rx) (h : Hd) : Value := .agg (recL x h).toArray
theorem recL_len (x : Rx) (h : Hd) : (recL x h).length = 36 := rfl
theorem recL_one (x : Rx) (h : Hd) : ∀ y ∈ recL x h, one y = true := by
  intro y hy
  simp [recL, vecF] at hy
  rcases hy with rfl | rfl | rfl | rfl | rfl | rfl | rfl | rfl | rfl | hy
  all_goals first
    | rfl
    | (rcases hy with rfl | rfl | rfl | rfl | rfl | rfl | rfl | rfl | rfl | hy
       all_goals first
         | rfl
         | (rcases hy with rfl | rfl | rfl | rfl | rfl | rfl | rfl | rfl | rfl | hy
            all_goals first
              | rfl
              | (rcases hy with rfl | rfl | rfl | rfl | rfl | rfl | rfl | rfl | rfl <;> rfl)))
/-- the siblings in memory, with their numbers -/
structure RdM (w : World) (A : Option Addr) (ms : List Sm) : Prop where
  rd : Rd w A (flat encM ms)
  el : ∀ m ∈ ms, Rd w m.A (flat encU m.s.v.ks)
theorem RdM.below {w w' : World} {A : Option Addr} {ms : List Sm} (h : RdM w A ms) (hS : St [] w w' []) : RdM w' A ms := ⟨h.rd.below hS, fun m hm => (h.el m hm).below hS⟩
/-- a record in memory -/
structure MemR (w : World) (x : Rx) (h : Hd) (ms : List Sm) : Prop where
  eq : x.xs = ms.map Sm.s
  l : RdM w h.A ms
  v : Rd w h.B (flat encU x.v.ks)
theorem MemR.below {w w' : World} {x : Rx} {h : Hd} {ms : List Sm} (m : MemR w x h ms) (hS : St [] w w' []) : MemR w' x h ms := ⟨m.eq, m.l.below hS, m.v.below hS⟩
theorem MemR.len {w : World} {x : Rx} {h : Hd} {ms : List Sm} (m : MemR w x h ms) : x.xs.length = ms.length := by rw [m.eq, List.length_map]

def okVa (v : Va) : Prop := (-9223372036854775808 ≤ v.n ∧ v.n ≤ 9223372036854775807) ∧ ∀ k ∈ v.ks, 0 ≤ k ∧ k ≤ 4294967295
def okSv (s : Sv) : Prop := (0 ≤ s.r ∧ s.r ≤ 255) ∧ (0 ≤ s.n ∧ s.n ≤ 4294967295) ∧ okVa s.v
structure okR (x : Rx) : Prop where
  k : 0 ≤ x.k ∧ x.k ≤ 255
  r : 0 ≤ x.r ∧ x.r ≤ 255
  n0 : 0 ≤ x.n0 ∧ x.n0 ≤ 4294967295
  n1 : 0 ≤ x.n1 ∧ x.n1 ≤ 4294967295
  n2 : 0 ≤ x.n2 ∧ x.n2 ≤ 4294967295
  rk : 0 ≤ x.rk ∧ x.rk ≤ 255
  ra : 0 ≤ x.ra ∧ x.ra ≤ 4294967295
  rq : -9223372036854775808 ≤ x.rq ∧ x.rq ≤ 9223372036854775807
  f : ∀ j, j < 8 → 0 ≤ x.f j ∧ x.f j ≤ 4294967295
  xs : ∀ s ∈ x.xs, okSv s
  vi : 0 ≤ x.vi ∧ x.vi ≤ 4294967295
  vt : 0 ≤ x.vt ∧ x.vt ≤ 4294967295
  vc : 0 ≤ x.vc ∧ x.vc ≤ 255
  v : okVa x.v
  g : ∀ j, j < 8 → 0 ≤ x.g j ∧ x.g j ≤ 4294967295
  ci : 0 ≤ x.ci ∧ x.ci ≤ 4294967295
  cb : -9223372036854775808 ≤ x.cb ∧ x.cb ≤ 9223372036854775807
  cr : -9223372036854775808 ≤ x.cr ∧ x.cr ≤ 9223372036854775807
  cs : -9223372036854775808 ≤ x.cs ∧ x.cs ≤ 9223372036854775807
/-- what may be gone through -/
structure fewR (x : Rx) : Prop where
  p : x.p.length ≤ 300
  l : x.xs.length ≤ 256
  el : ∀ s ∈ x.xs, s.v.ks.length ≤ 20
  v : x.v.ks.length ≤ 20

def okV (v : Va) : Bool := okVB v.d v.n v.ks
def dotC (s : Sv) : Sc := ⟨s.r, s.n, false, []⟩
def checkS (f : Nat → Int) (xs : List Sv) : Bool := checkC f (xs.map dotC)
def regB (f : Nat → Int) (xs : List Sv) : Bool := checkS f xs && xs.all fun s => okV s.v
def inB (n a b : Int) : Bool := decide (a ≤ n) && decide (n ≤ b)
def verB (vi vt vc : Int) (v : Va) : Bool := decide (0 < vi) && (decide (vt ≤ 1073741824) && (inB vc 1 4 && (!v.d && okV v)))
def chunkB (ci cb cr cs : Int) : Bool := if ci = 0 ∨ cr = 0 then (cb == 0 && (cr == 0 && cs == 0)) && decide (0 < ci) else inB cb 0 2047 && (inB cr 1 65535 && inB cs 1 64)
def mayR (x : Rx) : Bool :=
  if x.k = 1 then decide (x.r < 8)
  else if x.k = 2 then decide (x.n0 ≤ 1073741824) && (decide (0 < x.n1) && decide (0 < x.n2))
  else if x.k = 3 then decide (x.rk ≤ 1) && inB x.rq 0 1073741824
  else if x.k = 4 then namedB x.p && regB x.f x.xs
  else if x.k = 5 then namedB x.p && verB x.vi x.vt x.vc x.v
  else if x.k = 6 then decide (0 < x.vi)
  else if x.k = 7 then chunkB x.ci x.cb x.cr x.cs
  else if x.k = 8 then decide (x.r < 8) && (namedB x.p && mayVB x.g)
  else false
def needR (x : Rx) : Rx :=
  if x.k = 1 then { zeroRx x.k with r := x.r }
  else if x.k = 2 then { zeroRx x.k with n0 := x.n0, n1 := x.n1, n2 := x.n2 }
  else if x.k = 3 then { zeroRx x.k with rk := x.rk, ra := x.ra, rq := x.rq }
  else if x.k = 4 then { zeroRx x.k with p := x.p, f := x.f, xs := x.xs }
  else if x.k = 5 then { zeroRx x.k with p := x.p, vi := x.vi, vt := x.vt, vc := x.vc, v := x.v }
  else if x.k = 6 then { zeroRx x.k with vi := x.vi }
  else if x.k = 7 then { zeroRx x.k with ci := x.ci, cb := x.cb, cr := x.cr, cs := x.cs }
  else if x.k = 8 then { zeroRx x.k with r := x.r, p := x.p, g := x.g }
  else zeroRx x.k
def needH (x : Rx) (h : Hd) : Hd := if x.k = 4 then ⟨h.A, h.c, none, 0⟩ else if x.k = 5 then ⟨none, 0, h.B, h.e⟩ else noHd
def needM (x : Rx) (ms : List Sm) : List Sm := if x.k = 4 then ms else []
def sameV (a b : Va) : Bool := sameB a.d a.n a.ks b.d b.n b.ks
def sameS (a b : Sv) : Bool := (a.r == b.r && (a.n == b.n && true)) && sameV a.v b.v
def sameSs : List Sv → List Sv → Bool
  | [], [] => true
  | a :: x, b :: y => sameS a b && sameSs x y
  | _, _ => false
def eq3 (a b c d e f : Int) : Bool := a == d && (b == e && (c == f && true))
def eq4 (a b c d a' b' c' d' : Int) : Bool := a == a' && (b == b' && (c == c' && (d == d' && true)))
def sameR (a b : Rx) : Bool :=
  a.k == b.k && (a.r == b.r && (eq3 a.n0 a.n1 a.n2 b.n0 b.n1 b.n2 && (eq3 a.rk a.ra a.rq b.rk b.ra b.rq && (decide (a.p = b.p) && (veq a.f b.f && (sameSs a.xs b.xs &&
    (a.vi == b.vi && (a.vt == b.vt && (a.vc == b.vc && (sameV a.v b.v && (veq a.g b.g && eq4 a.ci a.cb a.cr a.cs b.ci b.cb b.cr b.cs)))))))))))
def checkR (x : Rx) : Bool := mayR x && sameR x (needR x)
def pathT (p : List UInt8) : List UInt8 := be p.length 1 ++ p
def vaT (v : Va) : List UInt8 := valT v.d v.n v.ks
def sbT (s : Sv) : List UInt8 := be s.r 1 ++ be s.n 2 ++ vaT s.v
def sbsT (xs : List Sv) : List UInt8 := xs.flatMap sbT
def restT (x : Rx) : List UInt8 :=
  if x.k = 1 then be x.r 1
  else if x.k = 2 then be x.n0 4 ++ be x.n1 4 ++ be x.n2 4
  else if x.k = 3 then be x.rk 1 ++ be x.ra 4 ++ be x.rq 4
  else if x.k = 4 then pathT x.p ++ ctxT x.f ++ be x.xs.length 1 ++ sbsT x.xs
  else if x.k = 5 then pathT x.p ++ be x.vi 4 ++ be x.vt 4 ++ be x.vc 1 ++ vaT x.v
  else if x.k = 6 then be x.vi 4
  else if x.k = 7 then be x.ci 4 ++ be x.cb 2 ++ be x.cr 2 ++ be x.cs 1
  else if x.k = 8 then be x.r 1 ++ pathT x.p ++ ctxT x.g
  else []
def recT (x : Rx) : List UInt8 := be x.k 1 ++ restT x
def putR (xs : List Rx) : List UInt8 × Int := if xs.all checkR then (xs.flatMap recT, 0) else ([], 4)
def numW (W : Nat) (s : RS) : Int := numF 0 (fixedR s W).1
def aftW (W : Nat) (s : RS) : RS := (fixedR s W).2
def pthR (s : RS) : RS × List UInt8 := ((fixedR (aftW 1 s) (numW 1 s)).2, (fixedR (aftW 1 s) (numW 1 s)).1)
def vecR (s : RS) : RS × (Nat → Int) := tk2 (numW 1 s) (aftW 1 s) 8
def vaR (s : RS) : RS × Va := (if (takeV (tellS s)).2 ≠ 0 then ⟨[], (takeV (tellS s)).2⟩ else valR (tellS s), ⟨(takeV (tellS s)).1.1, (takeV (tellS s)).1.2.1, (takeV (tellS s)).1.2.2⟩)
def sbR (s : RS) : RS × Sv := ((vaR (aftW 2 (aftW 1 s))).1, ⟨numW 1 s, numW 2 (aftW 1 s), (vaR (aftW 2 (aftW 1 s))).2⟩)
def sbsR (s : RS) : Nat → RS × List Sv
  | 0 => (s, [])
  | k+1 => if (sbsR s k).1.e ≠ 0 then sbsR s k else ((sbR (sbsR s k).1).1, if (sbR (sbsR s k).1).1.e ≠ 0 then (sbsR s k).2 else (sbsR s k).2 ++ [(sbR (sbsR s k).1).2])
def regR (s : RS) : RS × (Nat → Int) × List Sv := ((sbsR (aftW 1 (vecR s).1) (numW 1 (vecR s).1).toNat).1, (vecR s).2, (sbsR (aftW 1 (vecR s).1) (numW 1 (vecR s).1).toNat).2)
def verR (s : RS) : RS × Int × Int × Int × Va :=
  ((vaR (aftW 1 (aftW 4 (aftW 4 s)))).1, numW 4 s, numW 4 (aftW 4 s), numW 1 (aftW 4 (aftW 4 s)), (vaR (aftW 1 (aftW 4 (aftW 4 s)))).2)
def chkR (s : RS) : RS × Int × Int × Int × Int := (aftW 1 (aftW 2 (aftW 2 (aftW 4 s))), numW 4 s, numW 2 (aftW 4 s), numW 2 (aftW 2 (aftW 4 s)), numW 1 (aftW 2 (aftW 2 (aftW 4 s))))
/-- behind the kind -/
def bodyR (k : Int) (s : RS) : RS × Rx :=
  if k = 1 then (aftW 1 s, { zeroRx k with r := numW 1 s })
  else if k = 2 then (aftW 4 (aftW 4 (aftW 4 s)), { zeroRx k with n0 := numW 4 s, n1 := numW 4 (aftW 4 s), n2 := numW 4 (aftW 4 (aftW 4 s)) })
  else if k = 3 then (aftW 4 (aftW 4 (aftW 1 s)), { zeroRx k with rk := numW 1 s, ra := numW 4 (aftW 1 s), rq := numW 4 (aftW 4 (aftW 1 s)) })
  else if k = 4 then ((regR (pthR s).1).1, { zeroRx k with p := (pthR s).2, f := (regR (pthR s).1).2.1, xs := (regR (pthR s).1).2.2 })
  else if k = 5 then ((verR (pthR s).1).1, { zeroRx k with p := (pthR s).2, vi := (verR (pthR s).1).2.1, vt := (verR (pthR s).1).2.2.1, vc := (verR (pthR s).1).2.2.2.1, v := (verR (pthR s).1).2.2.2.2 })
  else if k = 6 then (aftW 4 s, { zeroRx k with vi := numW 4 s })
  else if k = 7 then ((chkR s).1, { zeroRx k with ci := (chkR s).2.1, cb := (chkR s).2.2.1, cr := (chkR s).2.2.2.1, cs := (chkR s).2.2.2.2 })
  else if k = 8 then ((vecR (pthR (aftW 1 s)).1).1, { zeroRx k with r := numW 1 s, p := (pthR (aftW 1 s)).2, g := (vecR (pthR (aftW 1 s)).1).2 })
  else (if s.e ≠ 0 then s else ⟨[], 4⟩, zeroRx k)
def oneR (s : RS) : RS × Rx := bodyR (numW 1 s) (aftW 1 s)
/-- all of a text, what was read being acc -/
def takeF : Nat → List UInt8 → List Rx → List Rx × Int
  | 0, _, acc => (acc, 0)
  | n+1, s, acc => if s = [] then (acc, 0) else if (oneR ⟨s, 0⟩).1.e ≠ 0 then ([], (oneR ⟨s, 0⟩).1.e)
    else if checkR (oneR ⟨s, 0⟩).2 = false then ([], 4) else if recT (oneR ⟨s, 0⟩).2 ≠ s.take (s.length - (oneR ⟨s, 0⟩).1.rest.length) then ([], 4)
    else takeF n (oneR ⟨s, 0⟩).1.rest (acc ++ [(oneR ⟨s, 0⟩).2])
def takeR (s : List UInt8) : List Rx × Int := takeF (s.length + 1) s []
end Go.RV

