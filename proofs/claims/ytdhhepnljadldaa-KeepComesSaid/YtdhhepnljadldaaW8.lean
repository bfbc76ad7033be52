/- The laws of chapter 9, walked: KeepKeeps. Conditions: none. -/
import Derived.Test.YtdhhepnljadldaaW7
import Derived.Test.YtdhhepnljadldaaRvO
set_option maxRecDepth 20000
set_option linter.unusedVariables false
set_option linter.unusedSimpArgs false
namespace Go.RV
open Go Go.Proofs

theorem Rd.form {A : Option Addr} {cs : List Value} {w : World} (hR : Rd w A cs) (hne : cs ≠ []) : ∃ b off, A = some ⟨b, off, none⟩ := by
  rcases hR with h | ⟨b, off, rfl, _⟩
  · exact absurd h hne
  · exact ⟨b, off, rfl⟩
theorem Rd.at {b off : Nat} {cs : List Value} {w : World} (hR : Rd w (some ⟨b, off, none⟩) cs) : ∀ j v o, cs[j]? = some v → o = off + j → w.cell? ⟨b, o, none⟩ = some v := by
  intro j v o hj ho
  rcases hR with h | ⟨b', off', e, h⟩
  · subst h; simp at hj
  · cases e; rw [ho]; exact h j v hj
theorem Sl.rdM {e sz : Nat} {A : Option Addr} {c n : Nat} {cs : List Value} {Lv F L : LM} {M : List Nat} {w0 w : World} (h : Sl e sz (.slice A n c) n cs Lv) (hS : Sf M w0 w F L) (hs : ∀ x ∈ Lv, x ∈ F) : Rd w A cs :=
  h.rd hS.st (fun x hx => List.mem_append_left _ (hs x hx))

theorem eqStp (x y : Stp) (w : World) : (Op.eqFields 9999 #[.int .u32 x.id, .int .u32 x.tick] #[.int .u32 y.id, .int .u32 y.tick] (Try.prog.fieldsOf 24).toList).run Try.prog w = .ok (decide (x = y)) w := by
  simp only [Program.fieldsOf, Try.underlying24]
  have e : decide (x = y) = ((x.id == y.id) && ((x.tick == y.tick) && true)) := by
    rw [Bool.eq_iff_iff]
    cases x; cases y
    simp
  rw [e]
  exact eqF_cons (d := 9998) rfl rfl rfl (.int Try.underlying22) (eqF_cons rfl rfl rfl (.int Try.underlying22) eqF_nil)
theorem fieldsStp : Try.prog.underlying 24 = some (.struct (Try.prog.fieldsOf 24)) := by
  unfold Program.fieldsOf
  rw [Try.underlying24]
theorem eqStp_i (x y : Stp) {ox oy : Operand} {w : World} {K : Value → World → Prop} (k : K (.bool (decide (x = y))) w) :
    SemN Try.prog (do eqGuard .eql 24 ox oy (stampV x) (stampV y); binOp .eql 24 (stampV x) (stampV y)) w K :=
  eqS_i (by kernel_rfl) fieldsStp (by kernel_rfl) (eqStp x y w) k
theorem neStp_i (x y : Stp) {ox oy : Operand} {w : World} {K : Value → World → Prop} (k : K (.bool (!decide (x = y))) w) :
    SemN Try.prog (do eqGuard .neq 24 ox oy (stampV x) (stampV y); binOp .neq 24 (stampV x) (stampV y)) w K :=
  neS_i (by kernel_rfl) fieldsStp (by kernel_rfl) (eqStp x y w) k

theorem filter_at {α : Type} (f : α → Bool) (xs : List α) (i : Nat) (h : i < xs.length) (hf : f xs[i] = true) : ((xs.take i).filter f).length < (xs.filter f).length ∧ (xs.filter f)[((xs.take i).filter f).length]? = some xs[i] := by
  have e : xs.filter f = (xs.take i).filter f ++ (xs[i] :: (xs.drop (i+1)).filter f) := by
    have h1 : xs = xs.take i ++ (xs[i] :: xs.drop (i+1)) := by rw [List.getElem_cons_drop, List.take_append_drop]
    conv => lhs; rw [h1]
    rw [List.filter_append, List.filter_cons, if_pos hf]
  constructor
  · rw [e]; simp
  · rw [e, List.getElem?_append_right (Nat.le_refl _)]; simp

def Ticked (xs : List Stp) : Prop := ∀ x ∈ xs, 0 ≤ x.tick ∧ x.tick ≤ 4294967295
theorem inR_alike (s x : Stp) (width : Int) (hwd : width = 8 ∨ width = 64) (h1 : 0 ≤ s.tick ∧ s.tick ≤ 4294967295) (h2 : 0 ≤ x.tick ∧ x.tick ≤ 4294967295) : inR s width x = alike width s x := by
  rcases hwd with rfl | rfl
  all_goals
    unfold inR alike q32 fromR
    rw [Int.tmod_eq_emod_of_nonneg h1.1, Int.tdiv_eq_ediv_of_nonneg h1.1, Int.tdiv_eq_ediv_of_nonneg h2.1]
    simp only [wrap_u32_mod]
    congr 1
    rw [Bool.eq_iff_iff]
    simp only [Bool.and_eq_true, decide_eq_true_eq, beq_iff_eq]
    omega
theorem firstR_newest (xs : List Stp) (s : Stp) (width : Int) (hwd : width = 8 ∨ width = 64) (h1 : 0 ≤ s.tick ∧ s.tick ≤ 4294967295) (hx : Ticked xs) : firstR xs s width = newest xs s width := by
  unfold firstR newest
  congr 1
  induction xs with
  | nil => rfl
  | cons x xs ih => rw [List.any_cons, List.any_cons, inR_alike s x width hwd h1 (hx x (by simp)), ih fun y hy => hx y (by simp [hy])]
theorem oneR_keepOne (p : Pol) (xs : List Stp) (now : Int) (hx : Ticked xs) (s : Stp) (hs : s ∈ xs) : oneR p xs s now = keepOne p xs now s := by
  unfold oneR keepOne keepP
  rw [firstR_newest xs s 8 (.inl rfl) (hx s hs) hx, firstR_newest xs s 64 (.inr rfl) (hx s hs) hx]
  split
  · rfl
  · rename_i h0
    split
    · rename_i h1
      split
      · rename_i h2
        simp only [stagP, if_pos (h1.resolve_left (by simp [h2]))]
      · simp [trashP]
    · rename_i h1
      have h2 : p.kind = 1 ∧ ¬ ageP s now < 8 := by omega
      rw [if_pos h2.1]
      simp only [stagP, if_neg h2.2]
end Go.RV
