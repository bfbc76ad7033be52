/- Contracts of functions of chapter 1: the writer. Conditions: none. -/
import Derived.Test.YtedoalnjdanebaaRvT
import Derived.Test.YtedoalnjdanebaaRvQ
set_option maxRecDepth 20000
set_option linter.unusedVariables false
set_option linter.unusedSimpArgs false
namespace Go.RV
open Go Go.Proofs

theorem elY : ElemOk Try.prog TB 69 5 1 1 := ⟨rfl, ⟨_, _, inf5, rfl, rfl, rfl, rfl⟩, by decide⟩
/-- a writer in block b, in which these bytes were written -/
structure Wr (b : Nat) (bs : List UInt8) (L : LM) : Prop where
  out : ∃ v Lv, L = (b, .cells #[v] 71 (0, 0)) :: Lv ∧ Sl 5 1 v bs.length (flat encY bs) Lv

theorem write_c (b : Nat) (bs ys : List UInt8) (L : LM) (hW : Wr b bs L) (A : Option Addr) (c : Nat) (w : World) (hS : St (keys L) w w L) (hR : Rd w A (flat encY ys)) (hn : bs.length + ys.length ≤ 140737488355328) :
    Fc Try.prog 61 [.pointer (some ⟨b, 0, none⟩), .slice A ys.length c] w fun v w' => ∃ L', Wr b (bs ++ ys) L' ∧ St (keys L) w w' L' := by
  refine fc_i TB_ok Try.func61 rfl (by kernel_rfl) ?_
  obtain ⟨v, Lv, rfl, hv⟩ := hW.out
  obtain ⟨Av, cv, rfl, hv⟩ := hv.open
  have hS : Sf (keys ((b, .cells #[.slice Av bs.length cv] 71 (0, 0)) :: Lv)) w w (Lv ++ []) [(b, .cells #[.slice Av bs.length cv] 71 (0, 0))] := ⟨hS.perm (by rw [List.append_nil]; exact List.perm_append_comm (l₁ := Lv) (l₂ := [_]))⟩
  repeat ((conv => whnf); first | (refine nw_f hS ?_; intro b w1 hS) | (refine ld_f hS 0 rfl rfl ?_) | (refine ldA_f hS 0 rfl rfl ?_) | (refine stN_f hS 0 rfl (Nat.le_of_ble_eq_true rfl) rfl rfl ?_; (conv => whnf); intro w1 hS) | (refine stM_f hS 0 rfl (Nat.le_of_ble_eq_true rfl) rfl ?_; (conv => whnf); intro w1 hS))
  refine app_f TB_ok elY hS hv hR (by rw [flat_length encY_len]) (fun y hy => ?_) (by omega) (by omega) ?_
  · obtain ⟨x, _, hx⟩ := List.mem_flatMap.1 hy
    simp [encY] at hx
    subst hx
    rfl
  intro v' Lv' w6 hv' hS
  obtain ⟨Av', cv', rfl, hv'⟩ := hv'.open
  repeat ((conv => whnf); first | (refine nw_f hS ?_; intro b w1 hS) | (refine ld_f hS 0 rfl rfl ?_) | (refine ldA_f hS 0 rfl rfl ?_) | (refine stN_f hS 0 rfl (Nat.le_of_ble_eq_true rfl) rfl rfl ?_; (conv => whnf); intro w1 hS) | (refine stM_f hS 0 rfl (Nat.le_of_ble_eq_true rfl) rfl ?_; (conv => whnf); intro w1 hS))
  refine ⟨(b, .cells #[.slice Av' (bs.length + ys.length) cv'] 71 (0, 0)) :: Lv', ⟨_, Lv', rfl, ?_⟩, ?_⟩
  · rw [flat_append, List.length_append]
    exact hv'
  · exact hS.st.perm (by rw [List.append_nil]; exact (List.perm_append_comm (l₁ := Lv') (l₂ := [_])).symm)
end Go.RV
