/- Contracts of functions of chapter 8: the program's groups, listed. Conditions: none. -/
import Derived.Test.YtjgdcifkaopnpaaDoorG4
import Derived.Test.YtjgdcifkaopnpaaDoorRvR
set_option maxRecDepth 20000
set_option linter.unusedVariables false
set_option linter.unusedSimpArgs false
namespace Go.RV.C08
open Go Go.Proofs

theorem elPG : ElemOk Tryd.prog TB 110 38 2 40 := ⟨rfl, ⟨_, _, inf38, rfl, rfl, rfl, rfl⟩, by decide⟩
theorem elPD : ElemOk Tryd.prog TB 36 42 2 8 := ⟨rfl, ⟨_, _, inf42, rfl, rfl, rfl, rfl⟩, by decide⟩
/-- append to the k-th element's own slice; the elements' own block is as it was -/
theorem gr_dot2 {P : Program} {M : List Nat} {w0 w : World} {F L Lv : LM} {eG eD : Nat} {v : Value} {gs : List Gx} {T : Tab} (hT : TabOk P T) {t ty bytes : Nat} (hE : ElemOk P T t eD 2 bytes) (hS : Sf M w0 w (Lv ++ gsL gs ++ F) L) (hv : Sl eG 2 v gs.length (flat encG gs) Lv) (h1 : ∀ x ∈ gs, GOk eD x) {k : Nat} (hk : k < gs.length) {d : Int × Int} {A : Option Addr} {c : Nat} (hr : Rd w A (encD d))
    (hb : (gs[k].ds.length + 1) * bytes ≤ 140737488355328) (h63 : gs[k].ds.length + 1 ≤ 4611686018427387904) {K : Value → World → Prop}
    (h : ∀ A' c' L' w', Gm eG eD v gs k ⟨gs[k].v, gs[k].ds ++ [d], A', c', L'⟩ (Lv ++ gsL (gs.set k ⟨gs[k].v, gs[k].ds ++ [d], A', c', L'⟩)) → Sf M w0 w' (Lv ++ gsL (gs.set k ⟨gs[k].v, gs[k].ds ++ [d], A', c', L'⟩) ++ F) L → K (.slice A' (gs[k].ds ++ [d]).length c') w') : SemN P (Builtin.append_ #[t, t] ty #[.slice gs[k].A gs[k].ds.length gs[k].c, .slice A 1 c]) w K := by
  have hx := h1 _ (List.getElem_mem hk)
  have hp := gsL_get hk
  have hS1 : Sf M w0 w (gs[k].L ++ (Lv ++ (gsL (gs.eraseIdx k) ++ F))) L := hS.pf (by
    have e1 : (Lv ++ gsL gs ++ F).Perm (Lv ++ (gs[k].L ++ gsL (gs.eraseIdx k)) ++ F) := List.Perm.append_right _ (List.Perm.append_left _ hp)
    refine List.Perm.trans ?_ e1.symm
    rw [List.append_assoc, List.append_assoc]
    exact List.perm_append_comm_assoc _ _ _)
  refine app_f hT hE hS1 hx hr rfl (fun y hy => ?_) hb h63 ?_
  · simp [encD] at hy
    rcases hy with rfl | rfl <;> rfl
  intro v' L' w' hv' hS'
  obtain ⟨A', c', rfl, hv'⟩ := hv'.open
  have hn : (gs[k].ds ++ [d]).length = gs[k].ds.length + 1 := by simp
  have hG' : GOk eD ⟨gs[k].v, gs[k].ds ++ [d], A', c', L'⟩ := by
    show Sl eD 2 (.slice A' (gs[k].ds ++ [d]).length c') (gs[k].ds ++ [d]).length (flat encD (gs[k].ds ++ [d])) L'
    rw [flat_append, hn]
    exact (by simpa [flat] using hv')
  have hq := gsL_at gs k ⟨gs[k].v, gs[k].ds ++ [d], A', c', L'⟩ hk
  rw [← hn]
  refine h A' c' L' w' ⟨Lv, hv, fun j hj _ => h1 _ (List.getElem_mem hj), hG', rfl⟩ (hS'.pf ?_)
  refine (List.Perm.append_right F (List.Perm.append_left Lv hq)).trans ?_
  show (Lv ++ (L' ++ gsL (gs.eraseIdx k)) ++ F).Perm _
  rw [List.append_assoc, List.append_assoc]
  exact List.perm_append_comm_assoc _ _ _
theorem subF {Lv D : LM} : (Lv ++ []).Sublist (Lv ++ D ++ []) := by simp
theorem groups_c (f : Nat → Int) (A : Option Addr) (l c : Nat) (fn : Fn) (fi ca : Array Value) (w : World) :
    Fc Tryd.prog 45 [regV f A l c, .func fn fi ca] w fun v w' => ∃ bx bs, v = .func (.func 61) #[] #[.pointer (some ⟨bx, 0, none⟩), .pointer (some ⟨bs, 0, none⟩)] ∧
      St [] w w' [(bs, .cells #[.func fn fi ca] 59 (0, 0)), (bx, .cells (vecF f ++ [Value.slice A l c]).toArray 27 (0, 0))] := by
  refine fc_i TB_ok Tryd.func45 rfl (by kernel_rfl) ?_
  have hS := Sf.refl w
  repeat ((conv => whnf); first | (apply q_i; focus (intro w1 hS; (conv => whnf); first | exact ⟨rfl, rfl⟩ | ((refine ld_f hS 0 rfl rfl ?_); (conv => whnf); exact ⟨rfl, rfl⟩) | ((refine ldA_f hS 0 rfl rfl ?_); (conv => whnf); exact ⟨rfl, rfl⟩))) | (refine nw_f hS ?_; intro b w1 hS) | (refine as_i hS ?_) | (refine as_i (hS.subs (List.nil_sublist _) (by repeat (first | exact List.Sublist.refl _ | apply List.Sublist.cons_cons | apply List.Sublist.cons))) ?_) | (refine as_i (hS.subs (List.Sublist.refl _) (by repeat (first | exact List.Sublist.refl _ | apply List.Sublist.cons_cons | apply List.Sublist.cons))) ?_) | (refine bar_f hS ?_) | (refine ld_f hS 0 rfl rfl ?_) | (refine ldA_f hS 0 rfl rfl ?_) | (refine stN_f hS 0 rfl (Nat.le_of_ble_eq_true rfl) rfl rfl ?_; (conv => whnf); intro w1 hS) | (refine stM_f hS 0 rfl (Nat.le_of_ble_eq_true rfl) rfl ?_; (conv => whnf); intro w1 hS) | (refine drawf TB_ok rfl (by kernel_rfl) (by kernel_rfl) hS (List.Sublist.refl _) (List.Sublist.refl _) ?_; intro w1 hS) | (refine br_t (by assumption) ?_) | (refine br_f (by assumption) ?_))
  exact ⟨_, _, rfl, hS.sub (List.Sublist.refl _)⟩
theorem back_c (A : Option Addr) (l c : Nat) (w : World) :
    Fc Tryd.prog 62 [.slice A l c] w fun v w' => ∃ b, v = .func (.func 85) #[] #[.pointer (some ⟨b, 0, none⟩)] ∧
      St [] w w' [(b, .cells #[.slice A l c] 25 (0, 0))] := by
  refine fc_i TB_ok Tryd.func62 rfl (by kernel_rfl) ?_
  have hS := Sf.refl w
  repeat ((conv => whnf); first | (apply q_i; focus (intro w1 hS; (conv => whnf); first | exact ⟨rfl, rfl⟩ | ((refine ld_f hS 0 rfl rfl ?_); (conv => whnf); exact ⟨rfl, rfl⟩) | ((refine ldA_f hS 0 rfl rfl ?_); (conv => whnf); exact ⟨rfl, rfl⟩))) | (refine nw_f hS ?_; intro b w1 hS) | (refine as_i hS ?_) | (refine as_i (hS.subs (List.nil_sublist _) (by repeat (first | exact List.Sublist.refl _ | apply List.Sublist.cons_cons | apply List.Sublist.cons))) ?_) | (refine as_i (hS.subs (List.Sublist.refl _) (by repeat (first | exact List.Sublist.refl _ | apply List.Sublist.cons_cons | apply List.Sublist.cons))) ?_) | (refine bar_f hS ?_) | (refine ld_f hS 0 rfl rfl ?_) | (refine ldA_f hS 0 rfl rfl ?_) | (refine stN_f hS 0 rfl (Nat.le_of_ble_eq_true rfl) rfl rfl ?_; (conv => whnf); intro w1 hS) | (refine stM_f hS 0 rfl (Nat.le_of_ble_eq_true rfl) rfl ?_; (conv => whnf); intro w1 hS) | (refine drawf TB_ok rfl (by kernel_rfl) (by kernel_rfl) hS (List.Sublist.refl _) (List.Sublist.refl _) ?_; intro w1 hS) | (refine br_t (by assumption) ?_) | (refine br_f (by assumption) ?_))
  exact ⟨_, rfl, hS.sub (List.Sublist.refl _)⟩
theorem indexG_some {A : Option Addr} {c : Nat} {xs : List Gx} {f : Value} {p : Gx → Bool} {w : World} {k : Nat} (hk : xs.findIdx? p = some k) (hR : Rd w A (flat encG xs)) (hn : xs.length ≤ 4611686018427387904) (hf : TellsG w f p xs) :
    Fc Tryd.prog 63 [.slice A xs.length c, f] w fun v w' => v = .int .i64 k ∧ St [] w w' [] := by
  have := indexG_c A c xs f p w hR hn hf
  rw [hk] at this
  exact this
theorem indexG_none {A : Option Addr} {c : Nat} {xs : List Gx} {f : Value} {p : Gx → Bool} {w : World} (hk : xs.findIdx? p = none) (hR : Rd w A (flat encG xs)) (hn : xs.length ≤ 4611686018427387904) (hf : TellsG w f p xs) :
    Fc Tryd.prog 63 [.slice A xs.length c, f] w fun v w' => v = .int .i64 (-1) ∧ St [] w w' [] := by
  have := indexG_c A c xs f p w hR hn hf
  rw [hk] at this
  exact this
end Go.RV.C08
