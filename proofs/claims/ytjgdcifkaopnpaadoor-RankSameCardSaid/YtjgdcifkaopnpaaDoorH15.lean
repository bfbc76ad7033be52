/- Plain laws of chapter 6: what is sorted is put in its place, one by one. Conditions: none. -/
import Derived.Test.YtjgdcifkaopnpaaDoorH10
set_option linter.unusedVariables false
set_option linter.unusedSimpArgs false
namespace Go.RV
open Go Go.Proofs

theorem less_iff {a b : Sx} : lessX a b = true ↔ a.n < b.n ∨ (a.n = b.n ∧ a.r < b.r) := by
  unfold lessX
  simp
theorem less_not {a b : Sx} : lessX a b = false ↔ ¬ (a.n < b.n ∨ (a.n = b.n ∧ a.r < b.r)) := by
  rw [← less_iff]
  simp
theorem less_trans {a b c : Sx} (h1 : lessX a b = true) (h2 : lessX b c = true) : lessX a c = true := by
  rw [less_iff] at *
  omega
theorem less_asymm {a b : Sx} (h : lessX a b = true) : lessX b a = false := by
  rw [less_not]
  rw [less_iff] at h
  omega
theorem less_irrefl (a : Sx) : lessX a a = false := by rw [less_not]; omega
theorem less_total {a b : Sx} (hk : key a ≠ key b) (h : lessX a b = false) : lessX b a = true := by
  rw [less_iff]
  rw [less_not] at h
  have : ¬ (a.r = b.r ∧ a.n = b.n) := fun e => hk (by unfold key; rw [e.1, e.2])
  omega
theorem less_key {a b : Sx} (h : lessX a b = true) : key a ≠ key b := fun e => by
  rw [less_iff] at h
  simp only [key, Prod.mk.injEq] at e
  omega
def Srt (l : List Sx) : Prop := l.Pairwise fun a b => lessX a b = true
theorem rises_srt : ∀ {l : List Sx}, risesB l = true → Srt l
  | [], _ => .nil
  | [x], _ => by unfold Srt; simp
  | x :: y :: r, h => by
    rw [risesB, Bool.and_eq_true] at h
    have ih := rises_srt h.2
    refine .cons (fun z hz => ?_) ih
    rcases List.mem_cons.1 hz with rfl | hz
    · exact h.1
    · exact less_trans h.1 (List.rel_of_pairwise_cons ih hz)
theorem srt_rises : ∀ {l : List Sx}, Srt l → risesB l = true
  | [], _ => rfl
  | [x], _ => rfl
  | x :: y :: r, h => by
    rw [risesB, Bool.and_eq_true]
    exact ⟨List.rel_of_pairwise_cons h (by simp), srt_rises (List.Pairwise.of_cons h)⟩
theorem Srt.nodup {l : List Sx} (h : Srt l) : (l.map key).Nodup := by
  unfold List.Nodup
  rw [List.pairwise_map]
  exact h.imp fun hab => less_key hab
theorem while_fail {α : Type} (p : α → Bool) (y : α) (hy : p y = false) : ∀ l : List α, (l ++ [y]).takeWhile p = l.takeWhile p ∧ (l ++ [y]).dropWhile p = l.dropWhile p ++ [y]
  | [] => by simp [hy]
  | a :: l => by
    have ih := while_fail p y hy l
    cases ha : p a <;> simp [ha, ih.1, ih.2]
theorem while_all {α : Type} (p : α → Bool) : ∀ l : List α, (∀ x ∈ l, p x = true) → l.takeWhile p = l ∧ l.dropWhile p = []
  | [], _ => by simp
  | a :: l, h => by
    have ih := while_all p l (fun x hx => h x (by simp [hx]))
    have ha := h a (by simp)
    simp [ha, ih.1, ih.2]
theorem putX_end {p : List Sx} {x : Sx} (h : ∀ y ∈ p, lessX y x = true) : putX p x = p ++ [x] := by
  obtain ⟨e1, e2⟩ := while_all (fun y => lessX y x) p h
  unfold putX
  rw [e1, e2]
theorem putX_snoc {p : List Sx} {x y : Sx} (h : lessX x y = true) : putX (p ++ [y]) x = putX p x ++ [y] := by
  obtain ⟨e1, e2⟩ := while_fail (fun y => lessX y x) y (less_asymm h) p
  unfold putX
  rw [e1, e2]
  simp
theorem putX_perm (l : List Sx) (s : Sx) : (putX l s).Perm (s :: l) := by
  unfold putX
  refine List.perm_middle.trans ?_
  rw [List.takeWhile_append_dropWhile]
theorem takeWhile_all {α : Type} {p : α → Bool} {l : List α} : ∀ x ∈ l.takeWhile p, p x = true := by
  induction l with
  | nil => simp
  | cons a l ih =>
    cases ha : p a with
    | true =>
      intro x hx
      simp only [List.takeWhile_cons, ha, if_true, List.mem_cons] at hx
      rcases hx with rfl | hx
      · exact ha
      · exact ih x hx
    | false => simp [ha]
theorem dropWhile_head {α : Type} {p : α → Bool} {l : List α} {d : α} {r : List α} (h : l.dropWhile p = d :: r) : p d = false := by
  induction l with
  | nil => simp at h
  | cons a l ih =>
    cases ha : p a with
    | true => simp only [List.dropWhile_cons, ha, if_true] at h; exact ih h
    | false =>
      simp only [List.dropWhile_cons, ha, Bool.false_eq_true, if_false] at h
      cases h
      exact ha
theorem putX_srt {l : List Sx} {s : Sx} (h : Srt l) (hk : ∀ y ∈ l, key y ≠ key s) : Srt (putX l s) := by
  have e := List.takeWhile_append_dropWhile (p := fun y => lessX y s) (l := l)
  have h1 : Srt (l.takeWhile (fun y => lessX y s)) := h.sublist (List.takeWhile_sublist _)
  have h2 : Srt (l.dropWhile (fun y => lessX y s)) := h.sublist (List.dropWhile_sublist _)
  have h3 : ∀ y ∈ l.dropWhile (fun y => lessX y s), lessX s y = true := by
    generalize hd : l.dropWhile (fun y => lessX y s) = dw at h2
    cases dw with
    | nil => simp
    | cons d r =>
      have hd0 := dropWhile_head hd
      have hdm : d ∈ l := (List.dropWhile_sublist (fun y => lessX y s)).subset (by rw [hd]; simp)
      have hsd := less_total (hk d hdm) hd0
      intro y hy
      rcases List.mem_cons.1 hy with rfl | hy
      · exact hsd
      · exact less_trans hsd (List.rel_of_pairwise_cons h2 hy)
  unfold putX
  refine List.pairwise_append.2 ⟨h1, .cons h3 h2, fun a ha b hb => ?_⟩
  have ha' := takeWhile_all a ha
  rcases List.mem_cons.1 hb with rfl | hb
  · exact ha'
  · exact less_trans ha' (h3 b hb)
theorem sink_put : ∀ (j : Nat) (p q : List Sx) (x : Sx), p.length = j → Srt p → (∀ y ∈ p, key y ≠ key x) → sink j (p ++ x :: q) = putX p x ++ q
  | 0, p, q, x, hp, _, _ => by
    obtain rfl := List.eq_nil_of_length_eq_zero hp
    rfl
  | j+1, p, q, x, hp, hs, hk => by
    obtain ⟨p', y, rfl⟩ : ∃ p' y, p = p' ++ [y] := by
      rcases List.eq_nil_or_concat p with h | ⟨l, a, h⟩
      · subst h; simp at hp
      · exact ⟨l, a, by simpa using h⟩
    have hp' : p'.length = j := by simpa using hp
    have hlt : j + 1 < (p' ++ [y] ++ x :: q).length := by simp; omega
    have hx : (p' ++ [y] ++ x :: q)[j + 1] = x := by
      rw [List.getElem_append_right (by simp; omega)]
      simp [hp']
    have hy : (p' ++ [y] ++ x :: q)[j]'(by omega) = y := by
      rw [List.getElem_append_left (by simp; omega), List.getElem_append_right (by omega)]
      simp [hp']
    have hs' := List.pairwise_append.1 hs
    unfold sink
    rw [dif_pos hlt, hx, hy]
    cases hl : lessX x y with
    | true =>
      rw [if_pos rfl]
      have hsw : swp (p' ++ [y] ++ x :: q) (j + 1) hlt = p' ++ x :: (y :: q) := by
        unfold swp
        simp only [Nat.add_sub_cancel]
        rw [hx, hy]
        subst hp'
        simp
      rw [hsw, sink_put j p' (y :: q) x hp' hs'.1 (fun z hz => hk z (by simp [hz])), putX_snoc hl]
      simp
    | false =>
      rw [if_neg (by decide)]
      have hyx := less_total (Ne.symm (hk y (by simp))) hl
      rw [putX_end]
      · simp
      · intro z hz
        rcases List.mem_append.1 hz with hz | hz
        · exact less_trans (hs'.2.2 z hz y (by simp)) hyx
        · obtain rfl := List.mem_singleton.1 hz
          exact hyx
theorem isF_put : ∀ (k i : Nat) (p q : List Sx), p.length = i → q.length = k → Srt p → ((p ++ q).map key).Nodup → isF k i (p ++ q) = q.foldl putX p
  | 0, i, p, q, _, hq, _, _ => by
    obtain rfl := List.eq_nil_of_length_eq_zero hq
    simp [isF]
  | k+1, i, p, q, hp, hq, hs, hn => by
    match q, hq with
    | x :: q, hq =>
      have hk : ∀ y ∈ p, key y ≠ key x := by
        intro y hy
        rw [List.map_append, List.nodup_append] at hn
        exact hn.2.2 _ (List.mem_map.2 ⟨y, hy, rfl⟩) _ (by simp)
      unfold isF
      rw [sink_put i p q x hp hs hk, List.foldl_cons]
      refine isF_put k (i + 1) (putX p x) q (by rw [putX_len, hp]) (by simpa using hq) (putX_srt hs hk) ?_
      have : (putX p x ++ q).Perm (p ++ x :: q) := by
        refine ((putX_perm p x).append_right q).trans ?_
        exact List.perm_middle.symm
      exact (this.map key).nodup_iff.2 hn
theorem isF_fold {l : List Sx} (hn : (l.map key).Nodup) : isF (l.length - 1) 1 l = l.foldl putX [] := by
  cases l with
  | nil => rfl
  | cons x q =>
    have := isF_put q.length 1 [x] q rfl rfl (by unfold Srt; simp) (by simpa using hn)
    simpa [putX] using this
theorem foldPut_srt : ∀ (q p : List Sx), Srt p → ((p ++ q).map key).Nodup → Srt (q.foldl putX p)
  | [], p, h, _ => h
  | x :: q, p, h, hn => by
    have hk : ∀ y ∈ p, key y ≠ key x := by
      intro y hy
      rw [List.map_append, List.nodup_append] at hn
      exact hn.2.2 _ (List.mem_map.2 ⟨y, hy, rfl⟩) _ (by simp)
    rw [List.foldl_cons]
    refine foldPut_srt q (putX p x) (putX_srt h hk) ?_
    have : (putX p x ++ q).Perm (p ++ x :: q) := ((putX_perm p x).append_right q).trans List.perm_middle.symm
    exact (this.map key).nodup_iff.2 hn
theorem foldPut_perm : ∀ (q p : List Sx), (q.foldl putX p).Perm (p ++ q)
  | [], p => by simp
  | x :: q, p => by
    rw [List.foldl_cons]
    exact (foldPut_perm q (putX p x)).trans (((putX_perm p x).append_right q).trans List.perm_middle.symm)
theorem check_srt {f : Nat → Int} {xs : List Sx} (h : checkB f xs = true) : Srt xs ∧ (∀ x ∈ xs, hasB f x.r x.n = true) ∧ mayVB f = true ∧ xs.length ≤ 8 := by
  unfold checkB at h
  simp only [Bool.and_eq_true, decide_eq_true_eq, List.all_eq_true] at h
  exact ⟨rises_srt h.2.2.2, h.2.2.1, h.1, h.2.1⟩
theorem jnL_nodup {f g : Nat → Int} {xs ys : List Sx} (h1 : checkB f xs = true) (h2 : checkB g ys = true) : ((jnL f g xs ys).map key).Nodup := by
  obtain ⟨s1, c1, _, _⟩ := check_srt h1
  obtain ⟨s2, c2, _, _⟩ := check_srt h2
  unfold jnL jnA jnB
  rw [List.map_append, List.nodup_append]
  refine ⟨Srt.nodup (s1.sublist List.filter_sublist), Srt.nodup (s2.sublist List.filter_sublist), ?_⟩
  intro a ha b hb e
  obtain ⟨x, hx, rfl⟩ := List.mem_map.1 ha
  obtain ⟨y, hy, rfl⟩ := List.mem_map.1 hb
  have hx' := c1 x (List.mem_filter.1 hx).1
  have hy' := (List.mem_filter.1 hy).2
  simp only [key, Prod.mk.injEq] at e
  rw [e.1, e.2] at hx'
  rw [hx'] at hy'
  cases hy'
theorem jnE_ok {f g : Nat → Int} {xs ys : List Sx} (h : jnE f g xs ys = 0) : checkB f xs = true ∧ checkB g ys = true ∧ (jnL f g xs ys).length ≤ 8 := by
  unfold jnE at h
  split at h
  · rename_i hc
    split at h
    · cases h
    · exact ⟨hc.1, hc.2, by omega⟩
  · cases h
theorem jn_rj (f g : Nat → Int) (xs ys : List Sx) : rjX f g xs ys = jnX f g xs ys := by
  unfold rjX jnX
  split
  · rename_i h
    obtain ⟨h1, h2, _⟩ := jnE_ok h
    rw [isF_fold (jnL_nodup h1 h2)]
  · rfl
end Go.RV
