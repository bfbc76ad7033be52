/- Contracts of functions of chapter 7: strings.Join, strings.Repeat; plain laws of chunks. Conditions: none. -/
import Derived.Test.YtedoalnjdanebaaS1
import Derived.Test.YtedoalnjdanebaaD8
import Derived.Test.YtedoalnjdanebaaRvR
set_option maxRecDepth 20000
set_option linter.unusedVariables false
set_option linter.unusedSimpArgs false
namespace Go.RV
open Go Go.Proofs Go.RowKit

theorem St.of_below {w w' : World} (h : Below w.heap.size w w') : St [] w w' [] :=
  ⟨h.os, h.tape, h.output, h.size, fun k hk _ => h.block k hk, fun _ _ h => (nomatch h), fun _ _ h => (nomatch h), by simp⟩
theorem Sl.cap {e sz : Nat} {A : Option Addr} {c n : Nat} {cs : List Value} {Lv : LM} (h : Sl e sz (.slice A n c) n cs Lv) : n ≤ c := by
  cases h with
  | nil => exact Nat.le_refl _
  | blk b cap n cs cur h1 h2 h3 h4 => exact h1
theorem flatTx (ys : List (List UInt8)) : flat encT ys = ys.map fun l => Value.string (strY l) := by
  induction ys with
  | nil => rfl
  | cons y ys ih => simp [flat, encT] at *; exact ih
theorem join_flat (xs : List (List UInt8)) : Lib.join xs [] = xs.flatten := by
  cases xs with
  | nil => rfl
  | cons x r =>
    rw [Lib.join_cons, List.flatten_cons]
    congr 1
    simp [Lib.joinTail]
theorem joinE_c (cs : List (List UInt8)) (A : Option Addr) (c : Nat) (hc : cs.length ≤ c) (w : World) (hR : Rd w A (flat encT cs)) (hl : cs.flatten.length ≤ 140737488355328) (hl2 : cs.length ≤ 140737488355328) :
    Fc Try.prog 30 [.slice A cs.length c, .string ⟨#[]⟩] w fun v w' => v = .string (strY cs.flatten) ∧ St [] w w' [] := by
  refine fc_of_calls Try.func30 rfl (by kernel_rfl) ?_
  rcases hR with h0 | ⟨b, off, rfl, hr⟩
  · have e : cs = [] := by cases cs with | nil => rfl | cons a t => rw [flatTx] at h0; cases h0
    subst e
    exact (Any.strings_Join_none lays156 extra156 A c ⟨#[]⟩ w).mono fun e w' ⟨he, hw⟩ => ⟨_, he, rfl, hw ▸ St.refl _⟩
  · cases hcs : cs with
    | nil => exact (Any.strings_Join_none lays156 extra156 _ c ⟨#[]⟩ w).mono fun e w' ⟨he, hw⟩ => ⟨_, he, rfl, hw ▸ St.refl _⟩
    | cons a t =>
      rw [← hcs]
      have hm : (cs.map strY).map (·.data.toList) = cs := by
        rw [List.map_map]
        conv => rhs; rw [← List.map_id cs]
        apply List.map_congr_left
        intro l _
        simp [strY]
      have hcell : ∀ (j : Nat) x, (cs.map strY)[j]? = some x → w.cell? ⟨b, off + j, none⟩ = some (.string x) := fun j x hj => by
        refine hr j _ ?_
        rw [flatTx]
        rw [List.getElem?_map] at hj ⊢
        cases hq : cs[j]? with
        | none => rw [hq] at hj; cases hj
        | some y => rw [hq] at hj; cases hj; rfl
      have hb : b < w.heap.size := by
        have h1 := hcell 0 (strY a) (by rw [hcs]; rfl)
        unfold World.cell? at h1
        rcases Nat.lt_or_ge b w.heap.size with h2 | h2
        · exact h2
        · simp [Array.getElem?_eq_none h2] at h1
      have h := Any.strings_Join lays156 extra156 b off c (cs.map strY) ⟨#[]⟩ w hcell hb (by simpa using hl2) (by simpa using hc) (by rw [hm]; simpa [join_flat] using hl)
      rw [List.length_map, hm] at h
      exact h.mono fun e w' ⟨he, hw⟩ => ⟨_, he, by rw [show (⟨#[]⟩ : ByteArray).data.toList = [] from rfl, join_flat]; rfl, St.of_below hw⟩
def reps (l : List UInt8) (n : Nat) : List UInt8 := Lib.repeatL l n
theorem repeat_c (s : List UInt8) (n : Nat) (hn : n ≤ 1073741824) (hl : s.length * n ≤ 140737488355328) (w : World) :
    Fc Try.prog 31 [.string (strY s), .int .i64 n] w fun v w' => v = .string (strY (reps s n)) ∧ St [] w w' [] := by
  refine fc_of_calls Try.func31 rfl (by kernel_rfl) ?_
  have h := Any.strings_Repeat lays105 extra105 (strY s) n w (by omega) (by rw [strY_size]; exact hl)
  exact h.mono fun e w' ⟨he, hw⟩ => ⟨_, he, by rw [show (strY s).data.toList = s from by simp [strY]]; rfl, St.of_below hw⟩

theorem chk_flat (s : List UInt8) : (chk s).flatten = s := by
  have : ∀ f s, s.length < f → (chkF f s).flatten = s := by
    intro f
    induction f with
    | zero => intro s h; omega
    | succ f ih =>
      intro s h
      unfold chkF
      split
      · rename_i e; subst e; rfl
      · rename_i e
        have hl : 0 < s.length := List.length_pos_iff.2 e
        rw [List.flatten_cons, ih _ (by rw [List.length_drop]; omega), List.take_append_drop]
  exact this _ _ (by omega)
theorem chk_inj {s t : List UInt8} (h : chk s = chk t) : s = t := by rw [← chk_flat s, h, chk_flat]
theorem chk_count (s : List UInt8) : ((chk s).length : Int) = countI s.length := by
  have : ∀ f s, s.length < f → ((chkF f s).length : Int) = countI s.length := by
    intro f
    induction f with
    | zero => intro s h; omega
    | succ f ih =>
      intro s h
      unfold chkF
      split
      · rename_i e; subst e; rfl
      · rename_i e
        have hl : 0 < s.length := List.length_pos_iff.2 e
        have ih' := ih (s.drop 64) (by rw [List.length_drop]; omega)
        rw [List.length_cons]
        rw [List.length_drop] at ih'
        unfold countI at ih' ⊢
        split at ih' <;> split <;> omega
  exact this _ _ (by omega)
theorem chk_part (s : List UInt8) (i : Nat) (h : i < (chk s).length) : 1 ≤ (chk s)[i].length ∧ (chk s)[i].length ≤ 64 ∧ (i + 1 < (chk s).length → (chk s)[i].length = 64) := by
  have : ∀ f s i (h : i < (chkF f s).length), s.length < f → 1 ≤ (chkF f s)[i].length ∧ (chkF f s)[i].length ≤ 64 ∧ (i + 1 < (chkF f s).length → (chkF f s)[i].length = 64) := by
    intro f
    induction f with
    | zero => intro s i h h2; omega
    | succ f ih =>
      intro s i h h2
      by_cases e : s = []
      · subst e; simp [chkF] at h
      · have hl : 0 < s.length := List.length_pos_iff.2 e
        have eu : chkF (f+1) s = s.take 64 :: chkF f (s.drop 64) := by rw [chkF, if_neg e]
        simp only [eu] at h ⊢
        cases i with
        | zero =>
          simp only [List.getElem_cons_zero, List.length_take]
          refine ⟨by omega, by omega, fun h3 => ?_⟩
          have : s.drop 64 ≠ [] := by
            intro e2
            rw [e2] at h3
            cases f <;> simp [chkF] at h3
          have := List.length_pos_iff.2 this
          rw [List.length_drop] at this
          omega
        | succ i =>
          simp only [List.getElem_cons_succ, List.length_cons]
          simp only [List.length_cons] at h
          obtain ⟨a1, a2, a3⟩ := ih (s.drop 64) i (by omega) (by rw [List.length_drop]; omega)
          exact ⟨a1, a2, fun h3 => a3 (by omega)⟩
  exact this _ _ _ h (by omega)
end Go.RV
