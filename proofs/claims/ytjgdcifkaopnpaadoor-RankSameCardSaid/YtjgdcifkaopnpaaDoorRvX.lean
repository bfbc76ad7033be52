/- Own slices whose elements hold own slices; a store into an own slice. Conditions: none. -/
import Derived.Test.YtjgdcifkaopnpaaDoorRvR
set_option linter.unusedVariables false
set_option linter.unusedSimpArgs false
namespace Go.RV
open Go Go.RowKit

theorem St.of_below' {w w' : World} (h : Below w.heap.size w w') : St [] w w' [] :=
  ⟨h.os, h.tape, h.output, h.size, fun k hk _ => h.block k hk, fun _ _ h => (nomatch h), fun _ _ h => (nomatch h), by simp⟩
theorem Sl.le {e sz : Nat} {A : Option Addr} {c n : Nat} {cs : List Value} {Lv : LM} (h : Sl e sz (.slice A n c) n cs Lv) : n ≤ c := by
  cases h with
  | nil => exact Nat.le_refl _
  | blk b cap n cs cur h1 h2 h3 h4 => exact h1

section
variable {P : Program} {M : List Nat} {w0 w w' : World} {F G H L : LM}
theorem Sf.pf (h : Sf M w0 w F L) {F' : LM} (p : F'.Perm F) : Sf M w0 w F' L := ⟨h.st.perm (List.Perm.append_right L p)⟩
theorem pc {α : Type} {l l' : List α} (h : ∀ [BEq α] [LawfulBEq α] (a : α), l.count a = l'.count a) : l.Perm l' := by
  classical
  exact List.perm_iff_count.2 fun a => h a
/-- a cell of a slice of the call's own is written -/
theorem st_sl {e sz b off n c : Nat} {cs : List Value} {Lv : LM} {v : Value} {K : World → Prop} (hv : Sl e sz (.slice (some ⟨b, off, none⟩) n c) n cs Lv) (hS : Sf M w0 w (Lv ++ F) L) (j : Nat) (hj : j < cs.length) {o : Nat} (ho : o = off + j) (h1 : one v = true)
    (h : ∀ w' Lv', Sl e sz (.slice (some ⟨b, off, none⟩) n c) n (cs.set j v) Lv' → Sf M w0 w' (Lv' ++ F) L → K w') : StN P w ⟨b, o, none⟩ [v] K := by
  subst ho
  cases hv with
  | blk _ cap n cs cur q1 q2 q3 q4 =>
    have hlen : n * sz ≤ cur.toList.length := by
      have := Nat.mul_le_mul_right sz q1
      simp only [Array.length_toList]
      omega
    have hjc : 0 + j < cur.toList.length := by omega
    have hSt : St M w0 w ((b, .cells cur e (0, 0)) :: (F ++ L)) := by simpa using hS.st
    refine stN_s hSt 0 rfl hjc (by simp) h1 (setK_i ?_)
    show ∀ w', St M w0 w' ((b, .cells (cur.toList.set (0 + j) v).toArray e (0, 0)) :: (F ++ L)) → K w'
    intro w' hS'
    refine h w' [(b, .cells (cur.toList.set (0 + j) v).toArray e (0, 0))] (.blk b _ n _ _ q1 (by simpa using q2) (by rw [List.length_set]; exact q3) ?_) ⟨by simpa using hS'⟩
    rw [← q4, Nat.zero_add]
    simp [List.take_set]
end

/-- an element that holds an own slice of pairs (number, number) beside a text -/
structure Gx where
  v : List UInt8
  ds : List (Int × Int)
  A : Option Addr
  c : Nat
  L : LM
def encD (d : Int × Int) : List Value := [.int .u8 d.1, .int .u32 d.2]
theorem encD_len (d : Int × Int) : (encD d).length = 2 := rfl
def encG (x : Gx) : List Value := [.string (strY x.v), .slice x.A x.ds.length x.c]
theorem encG_len (x : Gx) : (encG x).length = 2 := rfl
def GOk (eD : Nat) (x : Gx) : Prop := Sl eD 2 (.slice x.A x.ds.length x.c) x.ds.length (flat encD x.ds) x.L
def gsL (gs : List Gx) : LM := (gs.map (·.L)).flatten
/-- such elements, all in blocks of the call's own -/
structure Gr (eG eD : Nat) (v : Value) (gs : List Gx) (Lm : LM) : Prop where
  out : ∃ Lv, Sl eG 2 v gs.length (flat encG gs) Lv ∧ (∀ x ∈ gs, GOk eD x) ∧ Lm = Lv ++ gsL gs
/-- the same, but the k-th element's own slice is another one, which its cell doesn't tell yet -/
structure Gm (eG eD : Nat) (v : Value) (gs : List Gx) (k : Nat) (x : Gx) (Lm : LM) : Prop where
  out : ∃ Lv, Sl eG 2 v gs.length (flat encG gs) Lv ∧ (∀ j (h : j < gs.length), j ≠ k → GOk eD gs[j]) ∧ GOk eD x ∧ Lm = Lv ++ gsL (gs.set k x)
theorem gsL_at : ∀ (gs : List Gx) (k : Nat) (x : Gx), k < gs.length → (gsL (gs.set k x)).Perm (x.L ++ gsL (gs.eraseIdx k))
  | [], _, _, h => by cases h
  | g :: gs, 0, x, _ => by simp [gsL]
  | g :: gs, k+1, x, h => by
    have ih := gsL_at gs k x (by simpa using h)
    show (g.L ++ gsL (gs.set k x)).Perm (x.L ++ (g.L ++ gsL (gs.eraseIdx k)))
    exact (List.Perm.append_left _ ih).trans (List.perm_append_comm_assoc _ _ _)
theorem gsL_get {gs : List Gx} {k : Nat} (h : k < gs.length) : (gsL gs).Perm (gs[k].L ++ gsL (gs.eraseIdx k)) := by
  have := gsL_at gs k gs[k] h
  rwa [List.set_getElem_self] at this
theorem flat_setG : ∀ (gs : List Gx) (k : Nat) (x : Gx) (h : k < gs.length), x.v = gs[k].v → (flat encG gs).set (2 * k + 1) (.slice x.A x.ds.length x.c) = flat encG (gs.set k x)
  | [], _, _, h, _ => by cases h
  | g :: gs, 0, x, _, e => by
    have e : x.v = g.v := e
    simp [flat, encG, e]
  | g :: gs, k+1, x, h, e => by
    have ih := flat_setG gs k x (by simpa using h) e
    show (encG g ++ flat encG gs).set (2 * (k + 1) + 1) _ = encG g ++ flat encG (gs.set k x)
    rw [List.set_append_right _ _ (by rw [encG_len]; omega), encG_len, show 2 * (k + 1) + 1 - 2 = 2 * k + 1 from by omega, ih]
theorem Gr.nil (eG eD : Nat) : Gr eG eD (.slice none 0 0) [] [] := ⟨[], .nil, by simp, rfl⟩
section
variable {P : Program} {M : List Nat} {w0 w w' : World} {F L Lm : LM} {eG eD : Nat} {v : Value} {gs : List Gx}
theorem Gr.open (h : Gr eG eD v gs Lm) : ∃ A c, v = .slice A gs.length c ∧ Gr eG eD (.slice A gs.length c) gs Lm ∧ gs.length ≤ c := by
  obtain ⟨Lv, hv, h1, h2⟩ := h.out
  obtain ⟨A, c, rfl, hv⟩ := hv.open
  exact ⟨A, c, rfl, ⟨Lv, hv, h1, h2⟩, hv.le⟩
theorem Gr.rd {A : Option Addr} {c : Nat} (h : Gr eG eD (.slice A gs.length c) gs Lm) (hS : Sf M w0 w (Lm ++ F) L) : Rd w A (flat encG gs) := by
  obtain ⟨Lv, hv, h1, rfl⟩ := h.out
  exact hv.rdF (F := gsL gs ++ F) (by simpa using hS)
theorem Gr.ok (h : Gr eG eD v gs Lm) {k : Nat} (hk : k < gs.length) : GOk eD gs[k] := by
  obtain ⟨Lv, hv, h1, h2⟩ := h.out
  exact h1 _ (List.getElem_mem hk)
theorem Gr.rdD (h : Gr eG eD v gs Lm) (hS : Sf M w0 w (Lm ++ F) L) {k : Nat} (hk : k < gs.length) : Rd w gs[k].A (flat encD gs[k].ds) := by
  obtain ⟨Lv, hv, h1, rfl⟩ := h.out
  refine (h1 _ (List.getElem_mem hk)).rd hS.st fun x hx => ?_
  have : x ∈ gsL gs := (gsL_get hk).symm.subset (List.mem_append_left _ hx)
  simp [this]
theorem gr_new {T : Tab} (hT : TabOk P T) {t ty bytes : Nat} (hE : ElemOk P T t eG 2 bytes) (hS : Sf M w0 w (Lm ++ F) L) (hG : Gr eG eD v gs Lm) {s : List UInt8} {A : Option Addr} {c : Nat} (hr : Rd w A (encG ⟨s, [], none, 0, []⟩))
    (hb : (gs.length + 1) * bytes ≤ 140737488355328) (h63 : gs.length + 1 ≤ 4611686018427387904) {K : Value → World → Prop}
    (h : ∀ v' Lm' w', Gr eG eD v' (gs ++ [⟨s, [], none, 0, []⟩]) Lm' → Sf M w0 w' (Lm' ++ F) L → K v' w') : SemN P (Builtin.append_ #[t, t] ty #[v, .slice A 1 c]) w K := by
  obtain ⟨Lv, hv, h1, rfl⟩ := hG.out
  have hS1 : Sf M w0 w (Lv ++ (gsL gs ++ F)) L := by simpa using hS
  refine app_f hT hE hS1 hv hr rfl (fun y hy => ?_) hb h63 ?_
  · simp [encG] at hy
    rcases hy with rfl | rfl <;> rfl
  intro v' Lv' w' hv' hS'
  refine h v' (Lv' ++ gsL gs) w' ⟨Lv', ?_, ?_, ?_⟩ (by simpa using hS')
  · rw [flat_append, List.length_append]
    have : flat encG [(⟨s, [], none, 0, []⟩ : Gx)] = encG ⟨s, [], none, 0, []⟩ := by simp [flat]
    rw [this]
    exact hv'
  · intro x hx
    rcases List.mem_append.1 hx with hx | hx
    · exact h1 x hx
    · obtain rfl := List.mem_singleton.1 hx
      exact .nil
  · simp [gsL]
theorem gr_dot {T : Tab} (hT : TabOk P T) {t ty bytes : Nat} (hE : ElemOk P T t eD 2 bytes) (hS : Sf M w0 w (Lm ++ F) L) (hG : Gr eG eD v gs Lm) {k : Nat} (hk : k < gs.length) {d : Int × Int} {A : Option Addr} {c : Nat} (hr : Rd w A (encD d))
    (hb : (gs[k].ds.length + 1) * bytes ≤ 140737488355328) (h63 : gs[k].ds.length + 1 ≤ 4611686018427387904) {K : Value → World → Prop}
    (h : ∀ A' c' L' Lm' w', Gm eG eD v gs k ⟨gs[k].v, gs[k].ds ++ [d], A', c', L'⟩ Lm' → Sf M w0 w' (Lm' ++ F) L → K (.slice A' (gs[k].ds ++ [d]).length c') w') : SemN P (Builtin.append_ #[t, t] ty #[.slice gs[k].A gs[k].ds.length gs[k].c, .slice A 1 c]) w K := by
  obtain ⟨Lv, hv, h1, rfl⟩ := hG.out
  have hx := h1 _ (List.getElem_mem hk)
  have hp := gsL_get hk
  have hS1 : Sf M w0 w (gs[k].L ++ (Lv ++ (gsL (gs.eraseIdx k) ++ F))) L := hS.pf (by
    have e1 : (Lv ++ gsL gs ++ F).Perm (Lv ++ (gs[k].L ++ gsL (gs.eraseIdx k)) ++ F) := List.Perm.append_right _ (List.Perm.append_left _ hp)
    refine List.Perm.trans ?_ e1.symm
    rw [List.append_assoc, List.append_assoc]
    exact List.perm_append_comm_assoc _ _ _)
  refine app_f hT hE hS1 hx hr rfl (fun y hy => ?_) hb h63 ?_
  · simp [encD] at hy
    rcases hy with rfl | rfl <;> rfl
  intro v' L' w' hv' hS'
  obtain ⟨A', c', rfl, hv'⟩ := hv'.open
  have hn : (gs[k].ds ++ [d]).length = gs[k].ds.length + 1 := by simp
  have hG' : GOk eD ⟨gs[k].v, gs[k].ds ++ [d], A', c', L'⟩ := by
    show Sl eD 2 (.slice A' (gs[k].ds ++ [d]).length c') (gs[k].ds ++ [d]).length (flat encD (gs[k].ds ++ [d])) L'
    rw [flat_append, hn]
    exact (by simpa [flat] using hv')
  have hq := gsL_at gs k ⟨gs[k].v, gs[k].ds ++ [d], A', c', L'⟩ hk
  rw [← hn]
  refine h A' c' L' (Lv ++ gsL (gs.set k ⟨gs[k].v, gs[k].ds ++ [d], A', c', L'⟩)) w' ⟨Lv, hv, fun j hj _ => h1 _ (List.getElem_mem hj), hG', rfl⟩ (hS'.pf ?_)
  refine (List.Perm.append_right F (List.Perm.append_left Lv hq)).trans ?_
  show (Lv ++ (L' ++ gsL (gs.eraseIdx k)) ++ F).Perm _
  rw [List.append_assoc, List.append_assoc]
  exact List.perm_append_comm_assoc _ _ _
theorem gr_put {b off c k : Nat} {x : Gx} {K : World → Prop} (hS : Sf M w0 w (Lm ++ F) L) (hG : Gm eG eD (.slice (some ⟨b, off, none⟩) gs.length c) gs k x Lm) (hk : k < gs.length) (hv : x.v = gs[k].v) {o : Nat} (ho : o = off + (2 * k + 1))
    (h : ∀ w' Lm', Gr eG eD (.slice (some ⟨b, off, none⟩) gs.length c) (gs.set k x) Lm' → Sf M w0 w' (Lm' ++ F) L → K w') : StN P w ⟨b, o, none⟩ [.slice x.A x.ds.length x.c] K := by
  obtain ⟨Lv, hs, h1, h2, rfl⟩ := hG.out
  have hS1 : Sf M w0 w (Lv ++ (gsL (gs.set k x) ++ F)) L := by simpa using hS
  refine st_sl hs hS1 (2 * k + 1) (by rw [flat_length encG_len]; omega) ho rfl ?_
  intro w' Lv' hs' hS'
  rw [flat_setG gs k x hk hv] at hs'
  refine h w' (Lv' ++ gsL (gs.set k x)) ⟨Lv', by rw [List.length_set]; exact hs', ?_, rfl⟩ (by simpa using hS')
  intro y hy
  obtain ⟨j, hj, rfl⟩ := List.getElem_of_mem hy
  rw [List.length_set] at hj
  by_cases e : j = k
  · subst e
    rw [List.getElem_set_self]
    exact h2
  · rw [List.getElem_set_ne (Ne.symm e)]
    exact h1 j hj e
end
end Go.RV
