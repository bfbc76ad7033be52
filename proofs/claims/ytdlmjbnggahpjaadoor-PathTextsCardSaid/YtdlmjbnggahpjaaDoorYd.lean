/- What chapter 4's rows list of package variables, opened; a world in which these hold their data. Conditions: none. -/
import Derived.Test.YtdlmjbnggahpjaaDoorPa4
import Derived.Test.YtdlmjbnggahpjaaDoorRvY
set_option maxRecDepth 20000
set_option linter.unusedVariables false
set_option linter.unusedSimpArgs false
namespace Go.RV
open Go Go.Proofs Go.RowKit Go.ChangeShapes

theorem iface_trod {P : Program} {t : TypeId} {ms : Array (String × TypeId)} {H : Type} {enc : TypeId × Value → H} {W : World} {base : Nat} {sp : Nat → Bool} {held : Bool} {fuel : Nat} {cs : List Value} {y : DataW H × List MemPlace} (ht : P.underlying t = some (.interface ms)) (h : DataW.trod enc P W base sp held fuel t cs = some y) :
    ∃ v, cs = [v] ∧ (v = .nilIface ∨ ∃ u x, v = .iface u x) := by
  cases fuel with
  | zero => simp [DataW.trod] at h
  | succ n =>
    match cs, h with
    | [], h => simp [DataW.trod, ht] at h
    | [v], h => cases v <;> simp [DataW.trod, ht] at h <;> exact ⟨_, rfl, by simp⟩
    | a :: b :: r, h => simp [DataW.trod, ht] at h
theorem laid_one {P : Program} {W : World} {name : String} {d : DataW Unit} {g : Nat} {t : TypeId} (hg : P.globalNamed name = some g) (hty : (P.globals[g]?).map (·.type) = some t) :
    ∀ {l : List (String × DataW Unit)}, (name, d) ∈ l → laidMet P l W → ∃ cs fuel p, W.var? P name = some cs ∧ DataW.trod (fun _ => ()) P W 0 (fun _ => true) false fuel t cs.toList = some (d, p) := by
  intro l hm h
  obtain ⟨ps, h, hrest⟩ := h
  clear hrest
  induction l generalizing ps with
  | nil => cases hm
  | cons x r ih =>
    obtain ⟨nm, d'⟩ := x
    obtain ⟨g', t', cs, fuel, p, q, hg', ht', hvar, hd, hr, _⟩ := h
    rcases List.mem_cons.1 hm with e | hm
    · cases e
      obtain rfl := Option.some.inj (hg.symm.trans hg')
      obtain rfl := Option.some.inj (hty.symm.trans ht')
      exact ⟨cs, fuel, p, hvar, hd⟩
    · exact ih hm q hr
theorem err_cell {W : World} {name : String} {d : DataW Unit} {g : Nat} (hg : Tryd.prog.globalNamed name = some g) (hty : (Tryd.prog.globals[g]?).map (·.type) = some 89) {l : List (String × DataW Unit)} (hm : (name, d) ∈ l) (h : laidMet Tryd.prog l W) :
    ∃ ev, W.cell? ⟨g, 0, none⟩ = some ev ∧ (ev = .nilIface ∨ ∃ te pe, ev = .iface te pe) := by
  obtain ⟨cs, fuel, p, hv, hd⟩ := laid_one hg hty hm h
  obtain ⟨v, hc, hi⟩ := iface_trod (ms := Tryd.prog.methodsAt 89) (by kernel_rfl) hd
  refine ⟨v, ?_, hi⟩
  unfold World.var? at hv
  rw [hg, Option.bind_some] at hv
  cases hb : W.heap[g]? with
  | none => rw [hb] at hv; cases hv
  | some o =>
    rw [hb] at hv
    cases o with
    | cells c ty fz =>
      cases hv
      simp only [World.cell?, hb]
      rw [← Array.getElem?_toList, hc]
      rfl
    | _ => cases hv
theorem errs_row {W : World} {l : List (String × DataW Unit)} {d1 d2 : DataW Unit} (hp : (l.all fun x => x.2.handleName?.isNone) = true) (h1 : ("strconv.ErrSyntax", d1) ∈ l) (h2 : ("strconv.ErrRange", d2) ∈ l) (h : laidMetH Tryd.prog l W) : Errs W := by
  rw [MakeChecks.laidMetH_plain _ _ _ hp] at h
  exact ⟨err_cell (g := 1) (by kernel_rfl) (by kernel_rfl) h1 h, err_cell (g := 2) (by kernel_rfl) (by kernel_rfl) h2 h⟩
/-- the settled world with two blocks more, errors of the library's make, and the tables -/
noncomputable def low4 : Nat := (World.holding Tryd.prog default ⟨#[], #[], []⟩).heap.size
def setG (g : Nat) (v : Value) (w : World) : World := { w with heap := w.heap.modify g fun
  | .cells _ t frozen => .cells #[v] t frozen
  | o => o }
noncomputable def laidW4 (os : Os) (l : List (String × DataW Unit)) : World :=
  setG 1 (.iface 141 (.pointer (some ⟨low4 + 1, 0, none⟩))) (setG 2 (.iface 141 (.pointer (some ⟨low4, 0, none⟩)))
    (l.foldl (layIn Tryd.prog) (World.holding Tryd.prog os ⟨#[.cells #[.string ⟨#[118, 97, 108, 117, 101, 32, 111, 117, 116, 32, 111, 102, 32, 114, 97, 110, 103, 101]⟩] 143, .cells #[.string ⟨#[105, 110, 118, 97, 108, 105, 100, 32, 115, 121, 110, 116, 97, 120]⟩] 143], #[], []⟩)))
theorem laid4_os (os : Os) (l : List (String × DataW Unit)) : (laidW4 os l).os = os := by
  unfold laidW4 setG
  show (l.foldl (layIn Tryd.prog) _).os = os
  have : ∀ (l : List (String × DataW Unit)) (w : World), (l.foldl (layIn Tryd.prog) w).os = w.os := by
    intro l
    induction l with
    | nil => intro w; rfl
    | cons x r ih => intro w; rw [List.foldl_cons, ih, layIn_os]
  exact this l _
end Go.RV
