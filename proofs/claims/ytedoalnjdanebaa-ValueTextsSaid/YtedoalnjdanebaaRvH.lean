/- Memory: what a call has made of its own, block by block; the executor's questions answered from it. Conditions: none. -/
import Derived.Test.YtedoalnjdanebaaRvG
set_option linter.unusedVariables false
set_option linter.unusedSimpArgs false
namespace Go.RV
open Go Go.RowKit

abbrev LM := List (Nat × Obj)

/-- From w0 to w: of what lay there only the blocks of M may have turned; L tells blocks of M or new ones. -/
structure St (M : List Nat) (w0 w : World) (L : LM) : Prop where
  os : w.os = w0.os
  tape : w.tape = w0.tape
  output : w.output = w0.output
  size : w0.heap.size ≤ w.heap.size
  old : ∀ k, k < w0.heap.size → k ∉ M → w.heap[k]? = w0.heap[k]?
  own : ∀ b o, (b, o) ∈ L → w.heap[b]? = some o
  new : ∀ b o, (b, o) ∈ L → w0.heap.size ≤ b ∨ b ∈ M
  nod : (L.map (·.1)).Nodup

theorem St.refl (w : World) : St [] w w [] :=
  ⟨rfl, rfl, rfl, Nat.le_refl _, fun _ _ _ => rfl, fun _ _ h => (nomatch h), fun _ _ h => (nomatch h), by simp⟩
/-- where a block that came in is told -/
theorem St.start {w : World} {b : Nat} {o : Obj} (h : w.heap[b]? = some o) : St [b] w w [(b, o)] :=
  ⟨rfl, rfl, rfl, Nat.le_refl _, fun _ _ _ => rfl, fun b' o' h' => (by simp at h'; obtain ⟨rfl, rfl⟩ := h'; exact h), fun b' o' h' => (by simp at h'; simp [h'.1]), by simp⟩

section st
variable {M : List Nat} {w0 w w' : World} {L L' : LM}

theorem St.below (h : St [] w0 w L) : Below w0.heap.size w0 w :=
  ⟨h.os, h.tape, h.output, h.size, fun k hk => h.old k hk (by simp)⟩
theorem St.lt (h : St M w0 w L) {b : Nat} {o : Obj} (hb : (b, o) ∈ L) : b < w.heap.size := by
  have := h.own b o hb
  rcases Nat.lt_or_ge b w.heap.size with h1 | h1
  · exact h1
  · simp [Array.getElem?_eq_none h1] at this
theorem St.block (h : St M w0 w L) (k : Nat) {b : Nat} {o : Obj} (hk : L[k]? = some (b, o)) : w.heap[b]? = some o :=
  h.own b o (List.mem_of_getElem? hk)
theorem St.ge (h : St [] w0 w L) (k : Nat) {b : Nat} {o : Obj} (hk : L[k]? = some (b, o)) : w0.heap.size ≤ b := by
  rcases h.new b o (List.mem_of_getElem? hk) with h1 | h1
  · exact h1
  · cases h1

theorem St.sub (h : St M w0 w L) (hs : L'.Sublist L) : St M w0 w L' :=
  ⟨h.os, h.tape, h.output, h.size, h.old, fun b o hb => h.own b o (hs.subset hb), fun b o hb => h.new b o (hs.subset hb), List.Nodup.sublist (hs.map _) h.nod⟩
theorem St.perm (h : St M w0 w L) (hs : L'.Perm L) : St M w0 w L' :=
  ⟨h.os, h.tape, h.output, h.size, h.old, fun b o hb => h.own b o (hs.subset hb), fun b o hb => h.new b o (hs.subset hb), (hs.map _).nodup_iff.2 h.nod⟩
theorem St.nil (h : St M w0 w L) : St M w0 w [] := h.sub (List.nil_sublist _)

theorem St.alloc (h : St M w0 w L) (o : Obj) : St M w0 { w with heap := w.heap.push o } ((w.heap.size, o) :: L) where
  os := h.os
  tape := h.tape
  output := h.output
  size := by have := h.size; simp; omega
  old := fun k hk hM => by rw [← h.old k hk hM]; have := h.size; simp only [Array.getElem?_push]; rw [if_neg (by omega)]
  own := fun b o' hb => by
    rcases List.mem_cons.1 hb with e | hb
    · cases e; simp
    · have h1 := h.lt hb
      simp only [Array.getElem?_push]
      rw [if_neg (by omega)]
      exact h.own b o' hb
  new := fun b o' hb => by
    rcases List.mem_cons.1 hb with e | hb
    · cases e; exact .inl h.size
    · exact h.new b o' hb
  nod := by
    simp only [List.map_cons, List.nodup_cons]
    refine ⟨?_, h.nod⟩
    intro hm
    obtain ⟨⟨b, o'⟩, hb, e⟩ := List.mem_map.1 hm
    have h1 := h.lt hb
    simp only at e
    omega

/-- another object in a block that is told -/
theorem St.put (h : St M w0 w L) (k : Nat) {b : Nat} {o : Obj} (hk : L[k]? = some (b, o)) (o' : Obj) (hw : w'.heap.size = w.heap.size ∧ w'.os = w.os ∧ w'.tape = w.tape ∧ w'.output = w.output)
    (h1 : w'.heap[b]? = some o') (h2 : ∀ j, j ≠ b → w'.heap[j]? = w.heap[j]?) : St M w0 w' (L.set k (b, o')) where
  os := hw.2.1.trans h.os
  tape := hw.2.2.1.trans h.tape
  output := hw.2.2.2.trans h.output
  size := by rw [hw.1]; exact h.size
  old := fun j hj hM => by
    rw [h2 j ?_]
    · exact h.old j hj hM
    · intro e
      subst e
      rcases h.new j o (List.mem_of_getElem? hk) with h3 | h3
      · omega
      · exact hM h3
  own := fun b' o'' hb => by
    obtain ⟨j, hj⟩ := List.getElem?_of_mem hb
    rw [List.getElem?_set] at hj
    by_cases hjk : k = j
    · subst hjk
      rw [if_pos rfl] at hj
      split at hj
      · cases hj; exact h1
      · cases hj
    · rw [if_neg hjk] at hj
      have hne : b' ≠ b := by
        intro e
        subst e
        have hn := h.nod
        have e1 : (L.map (·.1))[j]? = some b' := by simp [hj]
        have e2 : (L.map (·.1))[k]? = some b' := by simp [hk]
        have hl : k < (L.map (·.1)).length := by
          rcases Nat.lt_or_ge k (L.map (·.1)).length with h | h
          · exact h
          · simp [List.getElem?_eq_none h] at e2
        exact hjk ((List.getElem?_inj hl hn).1 (e2.trans e1.symm))
      rw [h2 b' hne]
      exact h.own b' o'' (List.mem_of_getElem? hj)
  new := fun b' o'' hb => by
    obtain ⟨j, hj⟩ := List.getElem?_of_mem hb
    rw [List.getElem?_set] at hj
    split at hj
    · split at hj
      · cases hj; exact h.new b o (List.mem_of_getElem? hk)
      · cases hj
    · exact h.new b' o'' (List.mem_of_getElem? hj)
  nod := by
    have e : (L.set k (b, o')).map (·.1) = L.map (·.1) := by
      rw [List.map_set]
      apply List.ext_getElem?
      intro i
      rw [List.getElem?_set]
      split
      · rename_i hki
        subst hki
        split
        · simp [hk]
        · rename_i hlt
          simp only [List.length_map, Nat.not_lt] at hlt
          simp [List.getElem?_eq_none hlt]
      · rfl
    rw [e]
    exact h.nod

theorem St.cell (h : St M w0 w L) (k : Nat) {b off : Nat} {cs : Array Value} {e : TypeId} {fz : Nat × Nat} {v : Value} (hk : L[k]? = some (b, .cells cs e fz)) (hv : cs.toList[off]? = some v) : w.cell? ⟨b, off, none⟩ = some v := by
  have h1 := h.block k hk
  simp only [World.cell?, h1]
  simpa using hv
theorem St.frozen (h : St M w0 w L) (k : Nat) {b off : Nat} {cs : Array Value} {e : TypeId} {lo hi : Nat} (hk : L[k]? = some (b, .cells cs e (lo, hi))) : w.frozen? ⟨b, off, none⟩ = (lo ≤ off && off < hi) := by
  have h1 := h.block k hk
  simp only [World.frozen?, h1]

theorem setCell_heap_same {w : World} {b off : Nat} {cs : Array Value} {e : TypeId} {fz : Nat × Nat} (v : Value) (h : w.heap[b]? = some (.cells cs e fz)) :
    (w.setCell ⟨b, off, none⟩ v).heap[b]? = some (.cells (cs.setIfInBounds off v) e fz) := by
  simp only [World.setCell, Array.getElem?_modify, h]
  simp
theorem setCell_heap_ne {w : World} {b off j : Nat} (v : Value) (h : j ≠ b) : (w.setCell ⟨b, off, none⟩ v).heap[j]? = w.heap[j]? := by
  simp only [World.setCell, Array.getElem?_modify]
  rw [if_neg (fun e => h e.symm)]

theorem St.setCell (h : St M w0 w L) (k : Nat) {b : Nat} (off : Nat) {cs : Array Value} {e : TypeId} {fz : Nat × Nat} (v : Value) (hk : L[k]? = some (b, .cells cs e fz)) :
    St M w0 (w.setCell ⟨b, off, none⟩ v) (L.set k (b, .cells (cs.toList.set off v).toArray e fz)) := by
  have h1 := setCell_heap_same (off := off) v (h.block k hk)
  have e1 : cs.setIfInBounds off v = (cs.toList.set off v).toArray := by
    apply Array.ext'
    simp
  rw [e1] at h1
  exact h.put k hk _ ⟨by simp [World.setCell], rfl, rfl, rfl⟩ h1 (fun j hj => setCell_heap_ne v hj)

/-- a call that changes nothing that was there -/
theorem St.call (h : St M w0 w L) (h' : St [] w w' L') : St M w0 w' (L' ++ L) where
  os := h'.os.trans h.os
  tape := h'.tape.trans h.tape
  output := h'.output.trans h.output
  size := Nat.le_trans h.size h'.size
  old := fun k hk hM => (h'.old k (Nat.lt_of_lt_of_le hk h.size) (by simp)).trans (h.old k hk hM)
  own := fun b o hb => by
    rcases List.mem_append.1 hb with hb | hb
    · exact h'.own b o hb
    · rw [h'.old b (h.lt hb) (by simp)]; exact h.own b o hb
  new := fun b o hb => by
    rcases List.mem_append.1 hb with hb | hb
    · rcases h'.new b o hb with h1 | h1
      · exact .inl (Nat.le_trans h.size h1)
      · cases h1
    · exact h.new b o hb
  nod := by
    rw [List.map_append, List.nodup_append]
    refine ⟨h'.nod, h.nod, ?_⟩
    intro a ha b hb e
    subst e
    obtain ⟨⟨a1, o1⟩, h1, rfl⟩ := List.mem_map.1 ha
    obtain ⟨⟨a2, o2⟩, h2, e2⟩ := List.mem_map.1 hb
    simp only at e2
    subst e2
    rcases h'.new _ _ h1 with h3 | h3
    · have := h.lt h2; omega
    · cases h3

/-- a call that may change the blocks of M', all of which are told; the others stay -/
theorem St.callM {M' : List Nat} {Lk : LM} (h : St M w0 w L) (h' : St M' w w' L') (hM : ∀ b ∈ M', ∃ o, (b, o) ∈ L) (hs : Lk.Sublist L) (hk : ∀ x ∈ Lk, x.1 ∉ M') : St M w0 w' (L' ++ Lk) where
  os := h'.os.trans h.os
  tape := h'.tape.trans h.tape
  output := h'.output.trans h.output
  size := Nat.le_trans h.size h'.size
  old := fun k hk' hMk => by
    refine (h'.old k (Nat.lt_of_lt_of_le hk' h.size) ?_).trans (h.old k hk' hMk)
    intro hm
    obtain ⟨o, ho⟩ := hM k hm
    rcases h.new k o ho with h1 | h1
    · omega
    · exact hMk h1
  own := fun b o hb => by
    rcases List.mem_append.1 hb with hb | hb
    · exact h'.own b o hb
    · rw [h'.old b (h.lt (hs.subset hb)) (hk _ hb)]; exact h.own b o (hs.subset hb)
  new := fun b o hb => by
    rcases List.mem_append.1 hb with hb | hb
    · rcases h'.new b o hb with h1 | h1
      · exact .inl (Nat.le_trans h.size h1)
      · obtain ⟨o', ho'⟩ := hM b h1
        exact h.new b o' ho'
    · exact h.new b o (hs.subset hb)
  nod := by
    rw [List.map_append, List.nodup_append]
    refine ⟨h'.nod, List.Nodup.sublist (hs.map _) h.nod, ?_⟩
    intro a ha b hb e
    subst e
    obtain ⟨⟨a1, o1⟩, h1, rfl⟩ := List.mem_map.1 ha
    obtain ⟨⟨a2, o2⟩, h2, e2⟩ := List.mem_map.1 hb
    simp only at e2
    subst e2
    rcases h'.new _ _ h1 with h3 | h3
    · have := h.lt (hs.subset h2); omega
    · exact hk _ h2 h3

/-- a draw of an answer turns no block -/
theorem St.drew (h : St M w0 w L) (n : Nat) : St M w0 { w with drawn := n } L := ⟨h.os, h.tape, h.output, h.size, h.old, h.own, h.new, h.nod⟩

/- the executor's questions -/
def setLK (L : LM) (k : Nat) (x : Nat × Obj) (K : LM → Prop) : Prop :=
  match L, k with
  | [], _ => K []
  | _ :: L, 0 => K (x :: L)
  | y :: L, k+1 => setLK L k x fun L => K (y :: L)
def appLK (L L' : LM) (K : LM → Prop) : Prop :=
  match L with
  | [] => K L'
  | x :: L => appLK L L' fun L'' => K (x :: L'')
def normLK (L : LM) (K : LM → Prop) : Prop :=
  match L with
  | [] => K []
  | x :: L => normLK L fun L' => K (x :: L')
theorem setLK_ok {x : Nat × Obj} : ∀ {L : LM} {k : Nat} {K : LM → Prop}, setLK L k x K → K (L.set k x)
  | [], _, _, h => by simpa [setLK] using h
  | _ :: L, 0, _, h => by simpa [setLK] using h
  | y :: L, k+1, K, h => by
    have h1 : setLK L k x fun L => K (y :: L) := by simpa [setLK] using h
    have h2 := setLK_ok (K := fun L => K (y :: L)) h1
    simpa using h2
theorem appLK_ok {L' : LM} : ∀ {L : LM} {K : LM → Prop}, appLK L L' K → K (L ++ L')
  | [], _, h => h
  | x :: L, K, h => appLK_ok (L := L) (K := fun z => K (x :: z)) h
theorem normLK_ok : ∀ {L : LM} {K : LM → Prop}, normLK L K → K L
  | [], _, h => h
  | x :: L, K, h => normLK_ok (L := L) (K := fun z => K (x :: z)) h

theorem nw_s {o : Obj} {K : Nat → World → Prop} (hS : St M w0 w L) (h : ∀ b w', St M w0 w' ((b, o) :: L) → K b w') : Nw w o K := by
  refine ⟨?_⟩; exact h _ _ (hS.alloc o)
theorem ld_s {b off : Nat} {cs : Array Value} {e : TypeId} {fz : Nat × Nat} {v : Value} {K : Value → Prop} (hS : St M w0 w L) (k : Nat) (hk : L[k]? = some (b, .cells cs e fz)) (hv : cs.toList[off]? = some v) (h : K v) : Ld w ⟨b, off, none⟩ K :=
  ld_i v (hS.cell k hk hv) h
theorem ldN_s {b off n : Nat} {cs : Array Value} {e : TypeId} {fz : Nat × Nat} {K : List Value → Prop} (hS : St M w0 w L) (k : Nat) (hk : L[k]? = some (b, .cells cs e fz)) (hn : off + n ≤ cs.toList.length) (h : K ((cs.toList.drop off).take n)) : LdN w ⟨b, off, none⟩ n K := by
  refine ldN_i _ (by simp only [List.length_take, List.length_drop]; omega) ?_ h
  intro i hi
  rw [add_none, List.getElem?_take, if_pos hi, List.getElem?_drop]
  have hlt : off + i < cs.toList.length := by omega
  rw [List.getElem?_eq_getElem hlt]
  exact hS.cell k hk (List.getElem?_eq_getElem hlt)
/-- a whole block -/
theorem ldA_s {b n : Nat} {cs : Array Value} {e : TypeId} {fz : Nat × Nat} {K : List Value → Prop} (hS : St M w0 w L) (k : Nat) (hk : L[k]? = some (b, .cells cs e fz)) (hn : n = cs.toList.length) (h : K cs.toList) : LdN w ⟨b, 0, none⟩ n K := by
  refine ldN_s hS k hk (by omega) ?_
  subst hn
  rw [List.drop_zero, List.take_length]
  exact h
theorem oneCell_ok {v : Value} (h : (match v with | .agg _ => false | .tuple _ => false | _ => true) = true) : (∀ cs, v ≠ .agg cs) ∧ ∀ cs, v ≠ .tuple cs := by
  cases v <;> simp_all
def one (v : Value) : Bool := match v with | .agg _ => false | .tuple _ => false | _ => true
theorem run_store {P : Program} {a : Addr} {v u : Value} (ho : one v = true) (hc : w.cell? a = some u) (hf : w.frozen? a = false) : (store a v).run P w = .ok () (w.setCell a v) := by
  cases v <;> first | (simp [one] at ho; done) | simp [store, Sem.run, hc, hf]
theorem stN_s {P : Program} {b off : Nat} {cs : Array Value} {e : TypeId} {lo hi : Nat} {v : Value} {K : World → Prop} (hS : St M w0 w L) (k : Nat) (hk : L[k]? = some (b, .cells cs e (lo, hi))) (hlt : off < cs.toList.length) (hfz : (decide (lo ≤ off) && decide (off < hi)) = false) (ho : one v = true)
    (h : setK cs.toList off v fun l => setLK L k (b, .cells l.toArray e (lo, hi)) fun L' => ∀ w', St M w0 w' L' → K w') : StN P w ⟨b, off, none⟩ [v] K := by
  have h1 := setLK_ok (setK_ok h)
  have h2 := hS.setCell k off v hk
  have hc : w.cell? ⟨b, off, none⟩ = some (cs.toList[off]'hlt) := hS.cell k hk (List.getElem?_eq_getElem hlt)
  have hf : w.frozen? ⟨b, off, none⟩ = false := (hS.frozen k hk).trans hfz
  refine ⟨?_⟩
  refine .of_run (w' := w.setCell ⟨b, off, none⟩ v) (a := ()) ?_ (h1 _ h2)
  simp only [storeCells, add_none, Nat.add_zero, Sem.run_bind]
  rw [run_store ho hc hf]
  rfl
theorem fc_s {P : Program} {f : FuncId} {args : List Value} {R K : Value → World → Prop} (hS : St M w0 w L) (h : Fc P f args w R) (hk : ∀ v w', R v w' → K v w') : Fc P f args w K := h.mono hk
end st

end Go.RV
