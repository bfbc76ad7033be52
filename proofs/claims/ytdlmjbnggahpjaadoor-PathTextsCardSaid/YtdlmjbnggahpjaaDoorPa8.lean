/- Contracts of functions of chapter 4's laws. Conditions: none. -/
import Derived.Test.YtdlmjbnggahpjaaDoorPa7
set_option maxRecDepth 20000
set_option linter.unusedVariables false
set_option linter.unusedSimpArgs false
namespace Go.RV
open Go Go.Proofs Go.RowKit

theorem flatTx (ys : Nm) : flat encT ys = ys.map fun l => Value.string (strY l) := by
  induction ys with
  | nil => rfl
  | cons y ys ih => simp [flat, encT] at *; exact ih
theorem join_c (cs : Nm) (sep : List UInt8) (A : Option Addr) (c : Nat) (hc : cs.length ≤ c) (w : World) (hR : Rd w A (flat encT cs)) (hl : (Lib.join cs sep).length ≤ 140737488355328) (hl2 : cs.length ≤ 140737488355328) :
    Fc Tryd.prog 48 [.slice A cs.length c, .string (strY sep)] w fun v w' => v = .string (strY (Lib.join cs sep)) ∧ St [] w w' [] := by
  refine fc_of_calls Tryd.func48 rfl (by kernel_rfl) ?_
  have hsep : (strY sep).data.toList = sep := by simp [strY]
  cases hcs : cs with
  | nil => exact (Any.strings_Join_none (P := Tryd.prog) (ρ := ren156) lays156 extra156 _ c (strY sep) w).mono fun e w' ⟨he, hw⟩ => ⟨_, he, rfl, hw ▸ St.refl _⟩
  | cons a t =>
    rw [← hcs]
    rcases hR with h0 | ⟨b, off, rfl, hr⟩
    · rw [flatTx, hcs] at h0; cases h0
    · have hm : (cs.map strY).map (·.data.toList) = cs := by
        rw [List.map_map]
        conv => rhs; rw [← List.map_id cs]
        apply List.map_congr_left
        intro l _
        simp [strY]
      have hcell : ∀ (j : Nat) x, (cs.map strY)[j]? = some x → w.cell? ⟨b, off + j, none⟩ = some (.string x) := fun j x hj => by
        refine hr j _ ?_
        rw [flatTx]
        rw [List.getElem?_map] at hj ⊢
        cases hq : cs[j]? with
        | none => rw [hq] at hj; cases hj
        | some y => rw [hq] at hj; cases hj; rfl
      have hb : b < w.heap.size := Lib.lt_of_cell (hcell 0 (strY a) (by rw [hcs]; rfl))
      have h := Any.strings_Join (P := Tryd.prog) (ρ := ren156) lays156 extra156 b off c (cs.map strY) (strY sep) w hcell hb (by simpa using hl2) (by simpa using hc) (by rw [hm, hsep]; exact hl)
      rw [List.length_map, hm, hsep] at h
      exact h.mono fun e w' ⟨he, hw⟩ => ⟨_, he, rfl, St.of_below' hw⟩
theorem goR_le (lst : Lst) : ∀ (ps acc : Nm), acc.length ≤ 4 → (goR lst acc ps).1.length ≤ 4
  | [], acc, h => h
  | s :: r, acc, h => by
    rw [goR]
    generalize (if r.isEmpty then lst s else (s, 0)) = a
    split
    · simp
    · split
      · simp
      · split
        · simp
        · split
          · simp; omega
          · exact goR_le lst r _ (by simp; omega)
theorem readT_le (most : Nat) (lst : Lst) (p : List UInt8) : (readT most lst p).1.length ≤ 4 := by
  unfold readT
  split
  · simp
  · split
    · simp
    · split
      · simp
      · split
        · simp
        · exact goR_le lst _ _ (by simp)
theorem check_len {s : List UInt8} (h : checkE s = 0) : s.length ≤ 8 := by
  unfold checkE at h
  split at h
  · cases h
  · split at h
    · cases h
    · omega
theorem goR_each (lst : Lst) : ∀ (ps acc : Nm), (∀ s ∈ acc, checkE s = 0) → ∀ s ∈ (goR lst acc ps).1, checkE s = 0
  | [], acc, h => h
  | s :: r, acc, h => by
    rw [goR]
    generalize (if r.isEmpty then lst s else (s, 0)) = a
    split
    · simp
    · rename_i hc
      have hc' : checkE a.1 = 0 := Classical.byContradiction fun q => hc q
      split
      · simp
      · split
        · simp
        · have hnew : ∀ t ∈ acc ++ [a.1], checkE t = 0 := fun t ht => by
            rcases List.mem_append.1 ht with ht | ht
            · exact h t ht
            · obtain rfl := List.mem_singleton.1 ht
              exact hc'
          split
          · exact hnew
          · exact goR_each lst r _ hnew
theorem readT_each (most : Nat) (lst : Lst) (p : List UInt8) : ∀ s ∈ (readT most lst p).1, checkE s = 0 := by
  unfold readT
  split
  · simp
  · split
    · simp
    · split
      · simp
      · split
        · simp
        · exact goR_each lst _ _ (by simp)
theorem lens_le : ∀ cs : Nm, (∀ s ∈ cs, s.length ≤ 8) → Lib.lens cs ≤ cs.length * 8
  | [], _ => by simp [Lib.lens]
  | s :: r, h => by
    have h1 := lens_le r fun x hx => h x (List.mem_cons_of_mem _ hx)
    have h2 := h s (by simp)
    simp only [Lib.lens, List.map_cons, List.sum_cons, List.length_cons] at h1 ⊢
    omega
theorem join_le (sep : List UInt8) (cs : Nm) (h : ∀ s ∈ cs, s.length ≤ 8) (hs : sep.length ≤ 1) (h4 : cs.length ≤ 4) : (Lib.join cs sep).length ≤ 1000 := by
  cases cs with
  | nil => simp [Lib.join_nil]
  | cons s r =>
    rw [Lib.join_cons, List.length_append, Lib.joinTail_length]
    have h1 := lens_le r fun x hx => h x (List.mem_cons_of_mem _ hx)
    have h2 := h s (by simp)
    simp only [List.length_cons] at h4
    have h3 : sep.length * r.length ≤ 1 * r.length := Nat.mul_le_mul_right _ hs
    omega
theorem readT_join (most : Nat) (lst : Lst) (p : List UInt8) (sep : List UInt8) (hs : sep.length ≤ 1) : (Lib.join (readT most lst p).1 sep).length ≤ 1000 :=
  join_le sep _ (fun s h => check_len (readT_each most lst p s h)) hs (readT_le most lst p)
def meansB (p want : List UInt8) : Bool := decide (Lib.join (parseT p).1 [124] = want) && ((parseT p).2.1 == 0)
theorem means_c (p want : List UInt8) (hp : p.length ≤ 4611686018427387904) (w : World) : Fc Tryd.prog 33 [.string (strY p), .string (strY want)] w fun v w' => v = .bool (meansB p want) ∧ St [] w w' [] := by
  refine fc_i TB_ok Tryd.func33 rfl (by kernel_rfl) ?_
  have hS := Sf.refl w
  repeat ((conv => whnf); first | (apply q_i; focus (intro w1 hS; (conv => whnf); first | exact ⟨rfl, rfl⟩)) | (refine nw_f hS ?_; intro b w1 hS) | (refine as_i hS ?_) | (refine as_i (hS.subs (List.nil_sublist _) (by repeat (first | exact List.Sublist.refl _ | apply List.Sublist.cons_cons | apply List.Sublist.cons))) ?_) | (refine as_i (hS.subs (List.Sublist.refl _) (by repeat (first | exact List.Sublist.refl _ | apply List.Sublist.cons_cons | apply List.Sublist.cons))) ?_) | (refine bar_f hS ?_) | (refine drawf TB_ok rfl (by kernel_rfl) (by kernel_rfl) hS (List.Sublist.refl _) (List.Sublist.refl _) ?_; intro w1 hS) | (refine br_t (by assumption) ?_) | (refine br_f (by assumption) ?_))
  refine fc_m (parse_c p hp _) ?_
  rintro v w1 ⟨A, c, Lv, rfl, hv, hS'⟩
  replace hS := hS.callF hS'
  have hle : (parseT p).1.length ≤ 4 := readT_le _ _ _
  have hjl : (Lib.join (parseT p).1 [124]).length ≤ 1000 := readT_join _ _ _ _ (by decide)
  repeat ((conv => whnf); first | (apply q_i; focus (intro w1 hS; (conv => whnf); first | exact ⟨rfl, rfl⟩)) | (refine nw_f hS ?_; intro b w1 hS) | (refine as_i hS ?_) | (refine as_i (hS.subs (List.nil_sublist _) (by repeat (first | exact List.Sublist.refl _ | apply List.Sublist.cons_cons | apply List.Sublist.cons))) ?_) | (refine as_i (hS.subs (List.Sublist.refl _) (by repeat (first | exact List.Sublist.refl _ | apply List.Sublist.cons_cons | apply List.Sublist.cons))) ?_) | (refine bar_f hS ?_) | (refine drawf TB_ok rfl (by kernel_rfl) (by kernel_rfl) hS (List.Sublist.refl _) (List.Sublist.refl _) ?_; intro w1 hS) | (refine br_t (by assumption) ?_) | (refine br_f (by assumption) ?_))
  refine fc_m (join_c (parseT p).1 [124] A c hv.le _ (hv.rdM hS (fun x hx => by simp [hx])) (by omega) (by omega)) ?_
  rintro v w2 ⟨rfl, hS'⟩
  replace hS := hS.call0 hS'
  have hq := streq_strY (Lib.join (parseT p).1 [124]) want
  unfold meansB
  cases hd : decide (Lib.join (parseT p).1 [124] = want) with
  | true =>
    rw [hd] at hq
    repeat ((conv => whnf); first | (apply q_i; focus (intro w1 hS; (conv => whnf); first | exact ⟨rfl, rfl⟩)) | (refine nw_f hS ?_; intro b w1 hS) | (refine as_i hS ?_) | (refine as_i (hS.subs (List.nil_sublist _) (by repeat (first | exact List.Sublist.refl _ | apply List.Sublist.cons_cons | apply List.Sublist.cons))) ?_) | (refine as_i (hS.subs (List.Sublist.refl _) (by repeat (first | exact List.Sublist.refl _ | apply List.Sublist.cons_cons | apply List.Sublist.cons))) ?_) | (refine bar_f hS ?_) | (refine drawf TB_ok rfl (by kernel_rfl) (by kernel_rfl) hS (List.Sublist.refl _) (List.Sublist.refl _) ?_; intro w1 hS) | (refine br_t (by assumption) ?_) | (refine br_f (by assumption) ?_))
    exact ⟨rfl, hS.nil⟩
  | false =>
    rw [hd] at hq
    repeat ((conv => whnf); first | (apply q_i; focus (intro w1 hS; (conv => whnf); first | exact ⟨rfl, rfl⟩)) | (refine nw_f hS ?_; intro b w1 hS) | (refine as_i hS ?_) | (refine as_i (hS.subs (List.nil_sublist _) (by repeat (first | exact List.Sublist.refl _ | apply List.Sublist.cons_cons | apply List.Sublist.cons))) ?_) | (refine as_i (hS.subs (List.Sublist.refl _) (by repeat (first | exact List.Sublist.refl _ | apply List.Sublist.cons_cons | apply List.Sublist.cons))) ?_) | (refine bar_f hS ?_) | (refine drawf TB_ok rfl (by kernel_rfl) (by kernel_rfl) hS (List.Sublist.refl _) (List.Sublist.refl _) ?_; intro w1 hS) | (refine br_t (by assumption) ?_) | (refine br_f (by assumption) ?_))
    exact ⟨rfl, hS.nil⟩
def failsB (p : List UInt8) (e : Int) : Bool := decide ((parseT p).1.length = 0) && ((parseT p).2.1 == e)
theorem fails_c (p : List UInt8) (e : Int) (hp : p.length ≤ 4611686018427387904) (w : World) : Fc Tryd.prog 34 [.string (strY p), .int .i64 e] w fun v w' => v = .bool (failsB p e) ∧ St [] w w' [] := by
  refine fc_i TB_ok Tryd.func34 rfl (by kernel_rfl) ?_
  have hS := Sf.refl w
  repeat ((conv => whnf); first | (apply q_i; focus (intro w1 hS; (conv => whnf); first | exact ⟨rfl, rfl⟩)) | (refine nw_f hS ?_; intro b w1 hS) | (refine as_i hS ?_) | (refine as_i (hS.subs (List.nil_sublist _) (by repeat (first | exact List.Sublist.refl _ | apply List.Sublist.cons_cons | apply List.Sublist.cons))) ?_) | (refine as_i (hS.subs (List.Sublist.refl _) (by repeat (first | exact List.Sublist.refl _ | apply List.Sublist.cons_cons | apply List.Sublist.cons))) ?_) | (refine bar_f hS ?_) | (refine drawf TB_ok rfl (by kernel_rfl) (by kernel_rfl) hS (List.Sublist.refl _) (List.Sublist.refl _) ?_; intro w1 hS) | (refine br_t (by assumption) ?_) | (refine br_f (by assumption) ?_))
  refine fc_m (parse_c p hp _) ?_
  rintro v w1 ⟨A, c, Lv, rfl, hv, hS'⟩
  replace hS := hS.callF hS'
  unfold failsB
  by_cases h : (parseT p).1.length = 0
  · have g : (((parseT p).1.length : Int) == 0) = true := by simp [h]
    rw [decide_eq_true h]
    repeat ((conv => whnf); first | (apply q_i; focus (intro w1 hS; (conv => whnf); first | exact ⟨rfl, rfl⟩)) | (refine nw_f hS ?_; intro b w1 hS) | (refine as_i hS ?_) | (refine as_i (hS.subs (List.nil_sublist _) (by repeat (first | exact List.Sublist.refl _ | apply List.Sublist.cons_cons | apply List.Sublist.cons))) ?_) | (refine as_i (hS.subs (List.Sublist.refl _) (by repeat (first | exact List.Sublist.refl _ | apply List.Sublist.cons_cons | apply List.Sublist.cons))) ?_) | (refine bar_f hS ?_) | (refine drawf TB_ok rfl (by kernel_rfl) (by kernel_rfl) hS (List.Sublist.refl _) (List.Sublist.refl _) ?_; intro w1 hS) | (refine br_t (by assumption) ?_) | (refine br_f (by assumption) ?_))
    exact ⟨rfl, hS.nil⟩
  · have g : (((parseT p).1.length : Int) == 0) = false := by rw [beq_eq_false_iff_ne]; omega
    rw [decide_eq_false h]
    repeat ((conv => whnf); first | (apply q_i; focus (intro w1 hS; (conv => whnf); first | exact ⟨rfl, rfl⟩)) | (refine nw_f hS ?_; intro b w1 hS) | (refine as_i hS ?_) | (refine as_i (hS.subs (List.nil_sublist _) (by repeat (first | exact List.Sublist.refl _ | apply List.Sublist.cons_cons | apply List.Sublist.cons))) ?_) | (refine as_i (hS.subs (List.Sublist.refl _) (by repeat (first | exact List.Sublist.refl _ | apply List.Sublist.cons_cons | apply List.Sublist.cons))) ?_) | (refine bar_f hS ?_) | (refine drawf TB_ok rfl (by kernel_rfl) (by kernel_rfl) hS (List.Sublist.refl _) (List.Sublist.refl _) ?_; intro w1 hS) | (refine br_t (by assumption) ?_) | (refine br_f (by assumption) ?_))
    exact ⟨rfl, hS.nil⟩
end Go.RV
