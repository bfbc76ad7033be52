/- Contracts of functions of chapter 6: what is written, what is dropped. Conditions: none. -/
import Derived.Test.YtjgdcifkaopnpaaDoorH3
set_option maxRecDepth 20000
set_option linter.unusedVariables false
set_option linter.unusedSimpArgs false
namespace Go.RV
open Go Go.Proofs

theorem joinCl2_c (f : Nat → Int) (A : Option Addr) (c : Nat) (l : Nat) (r n : Int) (hr : 0 ≤ r) (b0 : Nat) (w : World) (hH : Holds w [(b0, .cells (vecF f ++ [Value.slice A l c]).toArray 27 (0, 0))]) :
    Fc Tryd.prog 29 [dotV r n, .pointer (some ⟨b0, 0, none⟩)] w fun v w' => v = .bool (!hasB f r n) ∧ St [] w w' [] := by
  refine fc_i TB_ok Tryd.func29 rfl (by kernel_rfl) ?_
  have hS := Sf.refl w
  repeat ((conv => whnf); first | (apply q_i; focus (intro w1 hS; (conv => whnf); first | exact ⟨rfl, rfl⟩ | ((refine ld_f hS 0 rfl rfl ?_); (conv => whnf); exact ⟨rfl, rfl⟩) | ((refine ldA_f hS 0 rfl rfl ?_); (conv => whnf); exact ⟨rfl, rfl⟩) | ((refine ldN_rd (cs := vecF f) (hH.rd0.below hS.nil) rfl ?_); (conv => whnf); exact ⟨rfl, rfl⟩) | ((refine fc_m (has_c f r n hr _) ?_; rintro v w3 ⟨rfl, hS'⟩; replace hS := hS.call0 hS'); (conv => whnf); exact ⟨rfl, rfl⟩))) | (refine nw_f hS ?_; intro b w1 hS) | (refine as_i hS ?_) | (refine as_i (hS.subs (List.nil_sublist _) (by repeat (first | exact List.Sublist.refl _ | apply List.Sublist.cons_cons | apply List.Sublist.cons))) ?_) | (refine as_i (hS.subs (List.Sublist.refl _) (by repeat (first | exact List.Sublist.refl _ | apply List.Sublist.cons_cons | apply List.Sublist.cons))) ?_) | (refine bar_f hS ?_) | (refine ld_f hS 0 rfl rfl ?_) | (refine ldA_f hS 0 rfl rfl ?_) | (refine stN_f hS 0 rfl (Nat.le_of_ble_eq_true rfl) rfl rfl ?_; (conv => whnf); intro w1 hS) | (refine stM_f hS 0 rfl (Nat.le_of_ble_eq_true rfl) rfl ?_; (conv => whnf); intro w1 hS) | (refine ldN_rd (cs := vecF f) (hH.rd0.below hS.nil) rfl ?_) | (refine fc_m (has_c f r n hr _) ?_; rintro v w3 ⟨rfl, hS'⟩; replace hS := hS.call0 hS') | (refine drawf TB_ok rfl (by kernel_rfl) (by kernel_rfl) hS (List.Sublist.refl _) (List.Sublist.refl _) ?_; intro w1 hS) | (refine br_t (by assumption) ?_) | (refine br_f (by assumption) ?_))
  exact ⟨rfl, hS.nil⟩
theorem sortCl_c (x y : Sx) (w : World) : Fc Tryd.prog 31 [.agg (encX x).toArray, .agg (encX y).toArray] w fun v w' => v = .int .i64 (ordI x.r x.n y.r y.n) ∧ St [] w w' [] := by
  refine fc_i TB_ok Tryd.func31 rfl (by kernel_rfl) ?_
  have hS := Sf.refl w
  repeat ((conv => whnf); first | (apply q_i; focus (intro w1 hS; (conv => whnf); first | exact ⟨rfl, rfl⟩ | ((refine ld_f hS 0 rfl rfl ?_); (conv => whnf); exact ⟨rfl, rfl⟩) | ((refine ld_f hS 1 rfl rfl ?_); (conv => whnf); exact ⟨rfl, rfl⟩) | ((refine ldA_f hS 0 rfl rfl ?_); (conv => whnf); exact ⟨rfl, rfl⟩) | ((refine ldA_f hS 1 rfl rfl ?_); (conv => whnf); exact ⟨rfl, rfl⟩) | ((refine ldN_f hS 0 rfl (Nat.le_of_ble_eq_true rfl) ?_); (conv => whnf); exact ⟨rfl, rfl⟩) | ((refine ldN_f hS 1 rfl (Nat.le_of_ble_eq_true rfl) ?_); (conv => whnf); exact ⟨rfl, rfl⟩) | ((refine fc_m (order_c _ _ _ _ _) ?_; rintro v w3 ⟨rfl, hS'⟩; replace hS := hS.call0 hS'); (conv => whnf); exact ⟨rfl, rfl⟩))) | (refine nw_f hS ?_; intro b w1 hS) | (refine as_i hS ?_) | (refine as_i (hS.subs (List.nil_sublist _) (by repeat (first | exact List.Sublist.refl _ | apply List.Sublist.cons_cons | apply List.Sublist.cons))) ?_) | (refine as_i (hS.subs (List.Sublist.refl _) (by repeat (first | exact List.Sublist.refl _ | apply List.Sublist.cons_cons | apply List.Sublist.cons))) ?_) | (refine bar_f hS ?_) | (refine ld_f hS 0 rfl rfl ?_) | (refine ld_f hS 1 rfl rfl ?_) | (refine ldA_f hS 0 rfl rfl ?_) | (refine ldA_f hS 1 rfl rfl ?_) | (refine stN_f hS 0 rfl (Nat.le_of_ble_eq_true rfl) rfl rfl ?_; (conv => whnf); intro w1 hS) | (refine stN_f hS 1 rfl (Nat.le_of_ble_eq_true rfl) rfl rfl ?_; (conv => whnf); intro w1 hS) | (refine stM_f hS 0 rfl (Nat.le_of_ble_eq_true rfl) rfl ?_; (conv => whnf); intro w1 hS) | (refine stM_f hS 1 rfl (Nat.le_of_ble_eq_true rfl) rfl ?_; (conv => whnf); intro w1 hS) | (refine ldN_f hS 0 rfl (Nat.le_of_ble_eq_true rfl) ?_) | (refine ldN_f hS 1 rfl (Nat.le_of_ble_eq_true rfl) ?_) | (refine fc_m (order_c _ _ _ _ _) ?_; rintro v w3 ⟨rfl, hS'⟩; replace hS := hS.call0 hS') | (refine drawf TB_ok rfl (by kernel_rfl) (by kernel_rfl) hS (List.Sublist.refl _) (List.Sublist.refl _) ?_; intro w1 hS) | (refine br_t (by assumption) ?_) | (refine br_f (by assumption) ?_))
  exact ⟨rfl, hS.nil⟩

/-- an operation: the error, the context, the siblings, the dot -/
def opE (f : Nat → Int) (xs : List Sx) (r : Int) : Int := if checkB f xs = true then nextE f r else 4
def opF (f : Nat → Int) (xs : List Sx) (r : Int) : Nat → Int := if opE f xs r = 0 then nextV f r else zeroF
def opX (f : Nat → Int) (xs : List Sx) (r : Int) (ds : List (Int × Int)) : List Sx := if opE f xs r = 0 then xs.filter (fun x => !dotIn ds x.r x.n) else []
def opR (f : Nat → Int) (xs : List Sx) (r : Int) : Int := if opE f xs r = 0 then nextR f r else 0
def opN (f : Nat → Int) (xs : List Sx) (r : Int) : Int := if opE f xs r = 0 then nextN f r else 0
def wrE (f : Nat → Int) (xs : List Sx) (r : Int) (ds : List (Int × Int)) : Int := if opE f xs r = 0 then (if (opX f xs r ds).length = 8 then 7 else 0) else opE f xs r
def wrF (f : Nat → Int) (xs : List Sx) (r : Int) (ds : List (Int × Int)) : Nat → Int := if wrE f xs r ds = 0 then opF f xs r else zeroF
def wrX (f : Nat → Int) (xs : List Sx) (r : Int) (ds : List (Int × Int)) (v : List UInt8) : List Sx := if wrE f xs r ds = 0 then opX f xs r ds ++ [⟨opR f xs r, opN f xs r, v⟩] else []
def wrR (f : Nat → Int) (xs : List Sx) (r : Int) (ds : List (Int × Int)) : Int := if wrE f xs r ds = 0 then opR f xs r else 0
def wrN (f : Nat → Int) (xs : List Sx) (r : Int) (ds : List (Int × Int)) : Int := if wrE f xs r ds = 0 then opN f xs r else 0
theorem opX_len (f : Nat → Int) (xs : List Sx) (r : Int) (ds : List (Int × Int)) : (opX f xs r ds).length ≤ xs.length := by
  unfold opX
  split
  · exact List.length_filter_le _ _
  · simp
end Go.RV
