/- The law KeepTells, claimed. Conditions: none. -/
import Derived.Test.YtdhhepnljadldaaW7
import Derived.Test.YtdhhepnljadldaaRvN
import Derived.Test.YtdhhepnljadldaaRows
import Derived.ProofKit
import Derived.SizedLaws
import Derived.OpenShut
namespace Go.Proofs.Ytdhhepnljadldaa.RvKeepTells
open Go.ChangeShapes Go.WideShapes Go.ChangeAt Go.RowKit
set_option linter.unusedVariables false
theorem own : ownKnob Try.prog.godebug = none := by kernel_rfl
theorem laidOut : laidOutB Try.prog = true := by kernel_rfl
theorem cells3 {cs : List Value} (h : cs.length = 3) : ∃ a b c, cs = [a, b, c] := by
  match cs, h with
  | [a, b, c], _ => exact ⟨a, b, c, rfl⟩
theorem cells4 {cs : List Value} (h : cs.length = 4) : ∃ a b c d, cs = [a, b, c, d] := by
  match cs, h with
  | [a, b, c, d], _ => exact ⟨a, b, c, d, rfl⟩
theorem open_pol {w : World} {r : Reach} {b0 : Nat} {v : Value} (h : Value.okWide Try.prog w r b0 27 v) : ∃ p : Go.RV.Pol, v = Go.RV.polV p ∧ 0 ≤ p.kind ∧ 0 ≤ p.age := by
  obtain ⟨cs, rfl, hl, hc⟩ := Go.RV.okWide_cells (.inl ⟨_, Try.underlying27⟩) (ts := [5, 22, 3]) (by kernel_rfl) (by kernel_rfl) h
  obtain ⟨x, y, z, rfl⟩ := cells3 hl
  obtain ⟨_, e0, h0⟩ := hc 0 _ rfl
  cases e0
  obtain ⟨_, e1, h1⟩ := hc 1 _ rfl
  cases e1
  obtain ⟨_, e2, h2⟩ := hc 2 _ rfl
  cases e2
  obtain ⟨k, rfl, hk⟩ := Go.RV.cell_int Try.underlying5 h0
  obtain ⟨a, rfl, ha⟩ := Go.RV.cell_int Try.underlying22 h1
  obtain ⟨q, rfl, hq⟩ := Go.RV.cell_int Try.underlying3 h2
  exact ⟨⟨k, a, q⟩, rfl, hk.1, ha.1⟩
set_option maxRecDepth 100000 in
theorem lifted (os : Os) (started : os.Started) (H : Type) (enc : TypeId × Value → H) :
    ReturnsInHanded {} Try.checked os 3 .any (Rows.keepTellsSpec.pre6 enc Try.prog Try.f3 Rows.keepTellsRow.domain false) (Rows.keepTellsSpec.post enc Try.prog Try.f3 false true false false) := by
  refine returnsInHanded_of_change_sized (C := Try.checked) own started (by kernel_rfl) Try.func3
    (ChangeSpec.witness6 (enc := enc) (C := Try.checked) false ⟨#[], #[.agg #[.int .u32 0, .int .u32 0, .int .u32 0, .int .u32 0], .agg #[.int .u8 0, .int .u32 0, .int .i64 0], .int .u32 0], []⟩ 8 (by kernel_rfl) (by kernel_rfl) (by kernel_rfl) (by kernel_rfl)) ?_
  intro W base args ds gs before hval0 hW hcnd hsz0 _
  have hval : ∀ (j : Nat) t v, Try.f3.params[j]? = some t → args[j]? = some v → Value.okWide Try.prog W .any base t v := hval0
  have hW' := hW
  obtain ⟨p, q, hA0, hV, rfl, hfz, hnd⟩ := hW
  have hA : DataW.TrodAll enc Try.prog W 0 (fun _ => true) true Try.f3.params.toList args.toList ds p := hA0
  rw [Try.params3] at hA hval
  obtain ⟨v0, vs0, d0, ds0, p0, q0, hargs, rfl, rfl, h0, r0⟩ := trodAll_cons hA
  obtain ⟨v1, vs1, d1, ds1, p1, q1, rfl, rfl, rfl, h1, r1⟩ := trodAll_cons r0
  obtain ⟨v2, vs2, d2, ds2, p2, q2, rfl, rfl, rfl, h2, r2⟩ := trodAll_cons r1
  obtain ⟨rfl, rfl, rfl⟩ := trodAll_nil r2
  obtain rfl : args = #[v0, v1, v2] := by cases args; simp_all
  obtain ⟨rfl, rfl⟩ := trodVars_none hV
  have lt0 : ∀ x ∈ p0, x.block < W.heap.size := by obtain ⟨m, hm⟩ := h0; exact DataW.trod_lt m _ _ _ hm
  have lt1 : ∀ x ∈ p1, x.block < W.heap.size := by obtain ⟨m, hm⟩ := h1; exact DataW.trod_lt m _ _ _ hm
  have lt2 : ∀ x ∈ p2, x.block < W.heap.size := by obtain ⟨m, hm⟩ := h2; exact DataW.trod_lt m _ _ _ hm
  obtain ⟨x, y, e0⟩ : ∃ x y : Go.RV.Stp, v0 = .agg #[.int .u32 x.id, .int .u32 x.tick, .int .u32 y.id, .int .u32 y.tick] := by
    obtain ⟨cs, rfl, hl, hc⟩ := Go.RV.okWide_cells (.inr ⟨_, _, Try.underlying25⟩) (ts := [22, 22, 22, 22]) (by kernel_rfl) (by kernel_rfl) (hval 0 _ v0 rfl rfl)
    obtain ⟨a, b, c, d, rfl⟩ := cells4 hl
    obtain ⟨_, e0, h0⟩ := hc 0 _ rfl
    obtain ⟨_, e1, h1⟩ := hc 1 _ rfl
    obtain ⟨_, e2, h2⟩ := hc 2 _ rfl
    obtain ⟨_, e3, h3⟩ := hc 3 _ rfl
    cases e0; cases e1; cases e2; cases e3
    obtain ⟨n0, rfl, _⟩ := Go.RV.cell_int Try.underlying22 h0
    obtain ⟨n1, rfl, _⟩ := Go.RV.cell_int Try.underlying22 h1
    obtain ⟨n2, rfl, _⟩ := Go.RV.cell_int Try.underlying22 h2
    obtain ⟨n3, rfl, _⟩ := Go.RV.cell_int Try.underlying22 h3
    exact ⟨⟨n0, n1⟩, ⟨n2, n3⟩, rfl⟩
  obtain ⟨pol, e1, hk, ha⟩ := open_pol (hval 1 _ v1 rfl rfl)
  obtain ⟨now, e2, _, _, _⟩ := open_int Try.underlying22 (hval 2 _ v2 rfl rfl) h2
  clear hA0 hval0 hsz0
  have walk : Calls Try.prog 3 #[v0, v1, v2] W fun e w' => e = .returned (.bool true) ∧ Below W.heap.size W w' := by
    subst e0; subst e1; subst e2
    refine (Go.RV.calls_of_fc Try.func3 rfl (by kernel_rfl) (Go.RV.tells_c x y pol hk ha now W)).mono ?_
    rintro e w' ⟨v, rfl, rfl, hS⟩
    exact ⟨rfl, hS.below⟩
  refine walk.mono fun e W' ⟨he, bel⟩ => ?_
  subst he
  exact ⟨_, rfl, _, _, _, [], _, [], hW', trodAll_mk1 (shut_bool Try.underlying4 _), (trodAll_cons_mk (Below.trod laidOut (by kernel_rfl) (of_decide_eq_true (by kernel_rfl)) h0 bel lt0) (trodAll_cons_mk (Below.trod laidOut (by kernel_rfl) (of_decide_eq_true (by kernel_rfl)) h1 bel lt1) (trodAll_cons_mk (Below.trod laidOut (by kernel_rfl) (of_decide_eq_true (by kernel_rfl)) h2 bel lt2) trodAll_mk0))), rfl, bel.frame _, fun h => by cases h⟩
theorem over : Rows.keepTellsRow.holds Try.pinned (OpenSpec.ofChange Rows.keepTellsSpec) :=
  OpenClaim.holds_of_wide 3 Try.f3 rfl rfl rfl rfl rfl rfl rfl ⟨rfl, rfl, rfl, rfl, rfl⟩ rfl rfl rfl rfl rfl (by kernel_rfl) Try.func3 (by kernel_rfl)
    (of_decide_eq_true (by kernel_rfl)) (by unfold Func.isWrapper; first | (rw [if_pos (by decide +kernel)]; kernel_rfl) | (rw [if_neg (by decide +kernel)]; exact ⟨rfl, rfl⟩))
    (fun os started H enc _ => lifted os started H enc)
end Go.Proofs.Ytdhhepnljadldaa.RvKeepTells
namespace Go.Proofs.Ytdhhepnljadldaa
/-- The row, under a short name, for the claim. -/
theorem keepTells_holds : Rows.KeepTellsSaid := RvKeepTells.over
end Go.Proofs.Ytdhhepnljadldaa
