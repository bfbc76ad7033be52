/- Slices: those that a call has made of its own and appends to; those that are read. Conditions: none. -/
import Derived.Test.YtedoalnjdanebaaRvJ
import Derived.Laws.AppendOwn
set_option linter.unusedVariables false
set_option linter.unusedSimpArgs false
namespace Go.RV
open Go Go.RowKit

/-- a slice of the call's own: n elements of sz cells each, the cells cs; L: the block that it owns -/
inductive Sl (e sz : Nat) : Value → Nat → List Value → LM → Prop
  | nil : Sl e sz (.slice none 0 0) 0 [] []
  | blk (b cap n : Nat) (cs : List Value) (cur : Array Value) : n ≤ cap → cur.size = cap * sz → cs.length = n * sz → cur.toList.take (n * sz) = cs → Sl e sz (.slice (some ⟨b, 0, none⟩) n cap) n cs [(b, .cells cur e (0, 0))]

/-- the cells from A on read as cs -/
def Rd (w : World) (A : Option Addr) (cs : List Value) : Prop :=
  cs = [] ∨ ∃ b off, A = some ⟨b, off, none⟩ ∧ ∀ j v, cs[j]? = some v → w.cell? ⟨b, off + j, none⟩ = some v

theorem one_eq (v : Value) : one v = v.oneCell' := by cases v <;> rfl

theorem Sl.shape {e sz : Nat} {v : Value} {n : Nat} {cs : List Value} {L : LM} (h : Sl e sz v n cs L) : ∃ A c, v = .slice A n c ∧ cs.length = n * sz := by
  cases h with
  | nil => exact ⟨none, 0, rfl, by simp⟩
  | blk b cap n cs cur h1 h2 h3 h4 => exact ⟨_, _, rfl, h3⟩

section
variable {M : List Nat} {w0 w w' : World} {L L' Lv : LM} {e sz : Nat}
theorem Sl.rd {A : Option Addr} {c n : Nat} {cs : List Value} (h : Sl e sz (.slice A n c) n cs Lv) (hS : St M w0 w L) (hsub : ∀ x ∈ Lv, x ∈ L) : Rd w A cs := by
  cases h with
  | nil => exact .inl rfl
  | blk b cap n cs cur h1 h2 h3 h4 =>
    refine .inr ⟨b, 0, rfl, fun j v hj => ?_⟩
    have hb := hS.own _ _ (hsub _ (List.mem_singleton.2 rfl))
    rw [← h4, List.getElem?_take] at hj
    split at hj
    · simp only [World.cell?, hb, Nat.zero_add]
      simpa using hj
    · cases hj
theorem Rd.below {A : Option Addr} {cs : List Value} (h : Rd w A cs) (hS : St [] w w' L) : Rd w' A cs := by
  rcases h with h | ⟨b, off, hA, h⟩
  · exact .inl h
  · refine .inr ⟨b, off, hA, fun j v hj => ?_⟩
    have h1 := h j v hj
    have hlt : b < w.heap.size := by
      unfold World.cell? at h1
      rcases Nat.lt_or_ge b w.heap.size with h2 | h2
      · exact h2
      · simp [Array.getElem?_eq_none h2] at h1
    unfold World.cell? at h1 ⊢
    rw [hS.old b hlt (by simp)]
    exact h1
/-- what is read below the base stays as it was -/
theorem Rd.base {A : Option Addr} {cs : List Value} (h : Rd w0 A cs) (hS : St [] w0 w L) : Rd w A cs := h.below hS

theorem ix_rd {A : Option Addr} {cs : List Value} {K : Nat → Nat → Prop} (hR : Rd w A cs) (hne : cs ≠ []) (h : ∀ b off, A = some ⟨b, off, none⟩ → (∀ j v o, cs[j]? = some v → o = off + j → w.cell? ⟨b, o, none⟩ = some v) → K b off) : Ix A K := by
  rcases hR with h1 | ⟨b, off, hA, h1⟩
  · exact absurd h1 hne
  · exact ⟨⟨b, off, hA, h b off hA fun j v o hj ho => by rw [ho]; exact h1 j v hj⟩⟩

theorem St.grow (hS : St M w0 w L) (cs : Array Value) (e : Nat) : St M w0 (w.drew.alloc (.cells cs e)) ((w.heap.size, .cells cs e) :: L) := (hS.drew (w.drawn + 1)).alloc _

theorem size_zc (z : Array Value) (n : Nat) : (Builtin.zeroCells z n).size = n * z.size := by simp [Builtin.zeroCells]

theorem setRow_size (w : World) (g : Nat) (cs : Array Value) : (w.setRow g cs).heap.size = w.heap.size := by simp [World.setRow]

structure ElemOk (P : Program) (T : Tab) (t e sz bytes : Nat) : Prop where
  und : und T t = some (.slice e)
  info : ∃ i z, P.info? e = some i ∧ i.zero = some z ∧ i.size = sz ∧ i.bytes = bytes ∧ z.cells.size = sz
  pos : 0 < sz

/-- **append onto a slice of the call's own** -/
theorem app_sl {P : Program} {T : Tab} (hT : TabOk P T) {t ty bytes : Nat} (hE : ElemOk P T t e sz bytes) {v : Value} {n : Nat} {cs : List Value} (hS : St M w0 w (Lv ++ L)) (hv : Sl e sz v n cs Lv)
    {A : Option Addr} {m c : Nat} {ys : List Value} (hr : Rd w A ys) (hl : ys.length = m * sz) (h1 : ∀ y ∈ ys, one y = true) (hb : (n + m) * bytes ≤ 140737488355328) (h63 : n + m ≤ 4611686018427387904) {K : Value → World → Prop}
    (h : ∀ v' Lv' w', Sl e sz v' (n + m) (cs ++ ys) Lv' → St M w0 w' (Lv' ++ L) → K v' w') : SemN P (Builtin.append_ #[t, t] ty #[v, .slice A m c]) w K := by
  obtain ⟨hu, ⟨i, z, hi, hz, hsz, hby, hzs⟩, hpos⟩ := hE
  have hut := und_ok hT hu
  refine ⟨?_⟩
  have h1' : ∀ u ∈ ys, u.oneCell' = true := fun u hu => by rw [← one_eq]; exact h1 u hu
  subst hsz hby
  by_cases hm : m = 0
  · -- nothing comes
    subst hm
    have hy : ys = [] := List.eq_nil_of_length_eq_zero (by simpa using hl)
    subst hy
    have hrun : (Builtin.append_ #[t, t] ty #[v, .slice A 0 c]).run P w = .ok v w := by
      obtain ⟨A', c', rfl, _⟩ := hv.shape
      have hnc : n ≤ c' := by
        cases hv with
        | nil => exact Nat.le_refl _
        | blk b cap n cs cur a1 a2 a3 a4 => exact a1
      have hf : (Builtin.firstCells i.size 0 (.slice A 0 c)).run P w = .ok #[] w := by
        cases A <;> simp [Builtin.firstCells, loadCells, loadCellsFrom]
      cases A' <;> simp [Builtin.append_, run_underlying hut, sizeOf, typeInfo, hi, Builtin.lenOf, hnc, hf, storeCells]
    exact .of_run hrun (h v Lv w (by simpa using hv) hS)
  · have hyne : ys ≠ [] := by
      intro hy
      have h0 : m * i.size = 0 := by rw [← hl, hy]; rfl
      rcases Nat.mul_eq_zero.1 h0 with h0 | h0 <;> omega
    obtain ⟨ab, ao, rfl, hnews⟩ := hr.resolve_left hyne
    have hnews' : ∀ j u, ys[j]? = some u → w.cell? ((⟨ab, ao, none⟩ : Addr).add j) = some u := fun j u hj => by rw [add_none]; exact hnews j u hj
    cases hv with
    | nil =>
      have hrun := run_append_nil (P := P) w t ty e i z hut hi hz ⟨ab, ao, none⟩ m c ys hl hnews' (by omega) (by omega) (by simp only [Nat.zero_add] at hb; omega)
      refine .of_run hrun ?_
      have hge := grownCap_ge w m 0 e
      have hS2 := hS.grow (ys.toArray ++ Builtin.zeroCells z.cells (grownCap w m 0 e - m)) e
      refine h _ [(w.heap.size, _)] _ ?_ hS2
      simp only [Nat.zero_add, List.nil_append]
      refine .blk _ _ _ _ _ hge ?_ hl ?_
      · simp only [Array.size_append, List.size_toArray, size_zc, hzs, hl, ← Nat.add_mul]
        congr 1
        omega
      · rw [← hl]
        simp
    | blk b cap n cs cur a1 a2 a3 a4 =>
      have hblk := hS.block 0 (b := b) rfl
      have hlen : (cs ++ ys).length = (n + m) * i.size := by rw [List.length_append, a3, hl, Nat.add_mul]
      by_cases hroom : n + m ≤ cap
      · have hfit : n * i.size + ys.length ≤ cur.size := by rw [hl, a2, ← Nat.add_mul]; exact Nat.mul_le_mul_right _ hroom
        have hrun := run_append_room (P := P) w t ty e i hut hi b n cap cur hblk ⟨ab, ao, none⟩ m c ys hl hnews' h1' hroom hfit
        refine .of_run hrun ?_
        have hS2 := hS.put (w' := w.setRow b (cur.toList.take (n * i.size) ++ ys ++ cur.toList.drop (n * i.size + ys.length)).toArray) 0 (b := b) rfl (.cells (cur.toList.take (n * i.size) ++ ys ++ cur.toList.drop (n * i.size + ys.length)).toArray e (0, 0))
          ⟨setRow_size _ _ _, rfl, rfl, rfl⟩ (setRow_heap w b cur _ e _ hblk) (fun j hj => setRow_other w b j _ hj)
        refine h _ [(b, _)] _ (.blk b cap (n + m) _ _ hroom ?_ hlen ?_) hS2
        · simp only [List.size_toArray, List.length_append, List.length_take, List.length_drop, Array.length_toList]
          omega
        · rw [a4, ← hlen]
          exact List.take_left
      · have holds : ∀ j u, cs[j]? = some u → w.cell? ((⟨b, 0, none⟩ : Addr).add j) = some u := fun j u hj => by
          rw [add_none]
          rcases (Sl.rd (.blk b cap n cs cur a1 a2 a3 a4) hS (fun x hx => List.mem_append_left _ hx)) with h2 | ⟨b', o', e1, h2⟩
          · subst h2; simp at hj
          · cases e1; exact h2 j u hj
        have hrun := run_append_grow (P := P) w t ty e i z hut hi hz ⟨b, 0, none⟩ n cap cs a3 holds ⟨ab, ao, none⟩ m c ys hl hnews' (by omega) (by omega) (growslice_fits (by omega) hb)
        refine .of_run hrun ?_
        have hge := grownCap_ge w (n + m) cap e
        have hS2 := (hS.grow (cs.toArray ++ ys.toArray ++ Builtin.zeroCells z.cells (grownCap w (n + m) cap e - (n + m))) e).sub (L' := (w.heap.size, .cells (cs.toArray ++ ys.toArray ++ Builtin.zeroCells z.cells (grownCap w (n + m) cap e - (n + m))) e) :: L)
          (List.Sublist.cons_cons _ (by simp))
        refine h _ [(w.heap.size, _)] _ (.blk _ _ _ _ _ hge ?_ hlen ?_) hS2
        · simp only [Array.size_append, List.size_toArray, size_zc, hzs, a3, hl, ← Nat.add_mul]
          congr 1
          omega
        · rw [← hlen]
          simp only [Array.toList_append]
          exact List.take_left (l₁ := cs ++ ys)
/-- append onto what has no room (a slice that came in, cut at its end): a new block -/
theorem app_new {P : Program} {T : Tab} (hT : TabOk P T) {t ty bytes : Nat} (hE : ElemOk P T t e sz bytes) {n cap : Nat} {cs : List Value} {B : Option Addr} (hS : St M w0 w L) (hB : Rd w B cs) (hcs : cs.length = n * sz) (hn : B = none → n = 0 ∧ cap = 0)
    {A : Option Addr} {m c : Nat} {ys : List Value} (hr : Rd w A ys) (hl : ys.length = m * sz) (hm : 0 < m) (hcap : cap < n + m) (hb : (n + m) * bytes ≤ 140737488355328) (h63 : n + m ≤ 4611686018427387904) {K : Value → World → Prop}
    (h : ∀ v' Lv' w', Sl e sz v' (n + m) (cs ++ ys) Lv' → St M w0 w' (Lv' ++ L) → K v' w') : SemN P (Builtin.append_ #[t, t] ty #[.slice B n cap, .slice A m c]) w K := by
  obtain ⟨hu, ⟨i, z, hi, hz, hsz, hby, hzs⟩, hpos⟩ := hE
  have hut := und_ok hT hu
  refine ⟨?_⟩
  subst hsz hby
  have hyne : ys ≠ [] := by
    intro hy
    have h0 : m * i.size = 0 := by rw [← hl, hy]; rfl
    rcases Nat.mul_eq_zero.1 h0 with h0 | h0 <;> omega
  obtain ⟨ab, ao, rfl, hnews⟩ := hr.resolve_left hyne
  have hnews' : ∀ j u, ys[j]? = some u → w.cell? ((⟨ab, ao, none⟩ : Addr).add j) = some u := fun j u hj => by rw [add_none]; exact hnews j u hj
  have hlen : (cs ++ ys).length = (n + m) * i.size := by rw [List.length_append, hcs, hl, Nat.add_mul]
  have hge := grownCap_ge w (n + m) cap e
  have fin : SemW P (Builtin.append_ #[t, t] ty #[.slice B n cap, .slice (some ⟨ab, ao, none⟩) m c]) w (fun v' w' => v' = .slice (some ⟨w.heap.size, 0, none⟩) (n + m) (grownCap w (n + m) cap e) ∧ w' = w.drew.alloc (.cells (cs.toArray ++ ys.toArray ++ Builtin.zeroCells z.cells (grownCap w (n + m) cap e - (n + m))) e)) := by
    cases B with
    | none =>
      obtain ⟨rfl, rfl⟩ := hn rfl
      have hc0 : cs = [] := List.eq_nil_of_length_eq_zero (by simpa using hcs)
      subst hc0
      have hrun := run_append_nil (P := P) w t ty e i z hut hi hz ⟨ab, ao, none⟩ m c ys hl hnews' (by omega) (by omega) (by simp only [Nat.zero_add] at hb; omega)
      refine .of_run hrun ?_
      simp
    | some B =>
      have holds : ∀ j u, cs[j]? = some u → w.cell? (B.add j) = some u := fun j u hj => by
        rcases hB with h2 | ⟨b', o', e1, h2⟩
        · subst h2; simp at hj
        · cases e1; rw [add_none]; exact h2 j u hj
      have hrun := run_append_grow (P := P) w t ty e i z hut hi hz B n cap cs hcs holds ⟨ab, ao, none⟩ m c ys hl hnews' (by omega) (by omega) (growslice_fits (by omega) hb)
      exact .of_run hrun ⟨rfl, rfl⟩
  refine fin.mono ?_
  rintro v' w' ⟨rfl, rfl⟩
  have hS2 := hS.grow (cs.toArray ++ ys.toArray ++ Builtin.zeroCells z.cells (grownCap w (n + m) cap e - (n + m))) e
  refine h _ [(w.heap.size, _)] _ (.blk _ _ _ _ _ hge ?_ hlen ?_) hS2
  · simp only [Array.size_append, List.size_toArray, size_zc, hzs, hcs, hl, ← Nat.add_mul]
    congr 1
    omega
  · rw [← hlen]
    simp only [Array.toList_append]
    exact List.take_left (l₁ := cs ++ ys)
end

/- lists of encoded elements -/
def flat {α : Type} (enc : α → List Value) (xs : List α) : List Value := xs.flatMap enc
section flat
variable {α : Type} {enc : α → List Value} {sz : Nat}
theorem flat_length (h : ∀ x, (enc x).length = sz) (xs : List α) : (flat enc xs).length = xs.length * sz := by
  induction xs with
  | nil => simp [flat]
  | cons x xs ih => simp only [flat, List.flatMap_cons, List.length_append, List.length_cons, h x] at ih ⊢; rw [ih, Nat.add_mul]; omega
theorem flat_append (xs ys : List α) : flat enc (xs ++ ys) = flat enc xs ++ flat enc ys := by simp [flat]
theorem flat_snoc (xs : List α) (y : α) : flat enc (xs ++ [y]) = flat enc xs ++ enc y := by simp [flat]
theorem flat_get (h : ∀ x, (enc x).length = sz) : ∀ (xs : List α) (i : Nat) (hi : i < xs.length) (k : Nat), k < sz → (flat enc xs)[i * sz + k]? = (enc xs[i])[k]?
  | [], i, hi, _, _ => by simp at hi
  | x :: xs, 0, _, k, hk => by
    simp only [flat, List.flatMap_cons, Nat.zero_mul, Nat.zero_add, List.getElem_cons_zero]
    rw [List.getElem?_append_left (by rw [h x]; exact hk)]
  | x :: xs, i+1, hi, k, hk => by
    have ih := flat_get h xs i (by simpa using hi) k hk
    simp only [flat, List.flatMap_cons, List.getElem_cons_succ] at ih ⊢
    rw [List.getElem?_append_right (by rw [h x, Nat.add_mul]; omega), h x, ← ih]
    congr 1
    rw [Nat.add_mul]
    omega
end flat

end Go.RV
