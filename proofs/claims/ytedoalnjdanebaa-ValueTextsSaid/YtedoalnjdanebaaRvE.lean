/- The executor's step is sound. Conditions: none. -/
import Derived.Test.YtedoalnjdanebaaRvD
set_option linter.unusedVariables false
set_option linter.unusedSimpArgs false
namespace Go.RV
open Go

section sound
variable {P : Program} {T : Tab} (hT : TabOk P T)

theorem map_evs {fr : Fr} (c : Array Operand) : (c.toList.map (evL fr)).toArray = c.map (evL fr) := by
  apply Array.ext'
  simp

include hT in
theorem callK_ok {o : Oper} {c : Call} (ho : o.op = .call c) {fr : Fr} {w : World} {K : Value → World → Prop} (h : callK T P o c fr w K) : SemW P (execOp (evL fr) o) w (NextW P K) := by
  have hfall : SemN P (execOp (evL fr) o) w (NextW P K) → SemW P (execOp (evL fr) o) w (NextW P K) := fun h => by replace h := h.out; exact h
  obtain ⟨callee, args, argTypes⟩ := c
  have hex : execOp (evL fr) o = (do let d ← resolve (evL fr) ⟨callee, args, argTypes⟩ o.type; invoke d.target d.args) := by
    unfold execOp; rw [ho]
  cases callee with
  | value f =>
    rw [hex]
    unfold callK at h
    simp only at h
    have h1 := evK_ok h
    have h2 := evsK_ok h1
    have key : Cv P (evL fr f) (args.toList.map (evL fr)) w K := by
      unfold cvK at h2
      split at h2
      · rename_i g first cap he
        rw [he]
        exact Cv.of_fc (appK_ok (appK_ok h2))
      · exact h2
    replace key := key.out
    rw [map_evs] at key
    exact key
  | invoke r m => exact hfall h
  | builtin b =>
    have hres : ∀ (w : World), (resolve (evL fr) ⟨.builtin b, args, argTypes⟩ o.type).run P w = .ok { target := .builtin b argTypes o.type (args.map fun | .const _ => true | _ => false), args := args.map (evL fr) } w := fun w => rfl
    have hb : ∀ {s : Sem Value}, builtin b argTypes o.type (args.map fun | .const _ => true | _ => false) (args.map (evL fr)) = (do pure (Next.value (← s))) → SemW P s w K → SemW P (execOp (evL fr) o) w (NextW P K) := by
      intro s hs hw
      rw [hex]
      refine SemW.bind (.of_run (hres w) ?_)
      show SemW P (builtin b argTypes o.type _ _) w _
      rw [hs]
      exact sv hw
    have toK : ∀ {s : Sem Value}, SemN P s w K → SemW P s w K := fun h => by replace h := h.out; exact h
    cases b with
    | len =>
      refine hb (s := Builtin.len_ argTypes o.type (args.map (evL fr))) rfl ?_
      unfold callK at h
      simp only at h
      have h2 := evsK_ok h
      rw [← map_evs]
      generalize args.toList.map (evL fr) = as at h2
      have aux : ∀ {d : TypeDesc}, (argTypes[0]?).bind (und T) = some d → ∃ t, argTypes[0]? = some t ∧ und T t = some d := by
        intro d hd
        cases ht : argTypes[0]? with
        | none => rw [ht] at hd; cases hd
        | some t => rw [ht] at hd; exact ⟨t, rfl, hd⟩
      split at h2
      · split at h2
        · rename_i hd
          obtain ⟨t, ht, hu⟩ := aux hd
          refine .of_run ?_ h2
          simp [Builtin.len_, ht, run_underlying_ok hT hu, goInt]
        · exact h2.elim
      · split at h2
        · rename_i hd
          obtain ⟨t, ht, hu⟩ := aux hd
          refine .of_run ?_ h2
          simp [Builtin.len_, ht, run_underlying_ok hT hu, goInt]
        · exact h2.elim
      · exact toK h2
    | cap =>
      refine hb (s := Builtin.cap_ argTypes o.type (args.map (evL fr))) rfl ?_
      unfold callK at h
      simp only at h
      have h2 := evsK_ok h
      rw [← map_evs]
      generalize args.toList.map (evL fr) = as at h2
      split at h2
      · split at h2
        · rename_i hd
          cases ht : argTypes[0]? with
          | none => rw [ht] at hd; cases hd
          | some t =>
            rw [ht] at hd
            refine .of_run ?_ h2
            simp [Builtin.cap_, ht, run_underlying_ok hT (t := t) hd, goInt]
        · exact h2.elim
      · exact toK h2
    | max =>
      refine hb (s := Builtin.max_ argTypes o.type (args.map (evL fr))) rfl ?_
      unfold callK at h
      simp only at h
      have h2 := evsK_ok h
      rw [← map_evs]
      generalize args.toList.map (evL fr) = as at h2
      split at h2
      · refine .of_run ?_ h2
        rename_i k a k' b
        simp only [Builtin.max_, List.foldlM_cons, List.foldlM_nil, Builtin.max2, Sem.run_bind, Sem.run_pure, Result.andThen_ok]
        congr 2
        rw [Int.max_def]
        split <;> split <;> omega
      · exact toK h2
    | min =>
      refine hb (s := Builtin.min_ argTypes o.type (args.map (evL fr))) rfl ?_
      unfold callK at h
      simp only at h
      have h2 := evsK_ok h
      rw [← map_evs]
      generalize args.toList.map (evL fr) = as at h2
      split at h2
      · refine .of_run ?_ h2
        rename_i k a k' b
        simp only [Builtin.min_, List.foldlM_cons, List.foldlM_nil, Builtin.min2, Sem.run_bind, Sem.run_pure, Result.andThen_ok]
        congr 2
        rw [Int.min_def]
        split <;> split <;> omega
      · exact toK h2
    | append =>
      refine hb (s := Builtin.append_ argTypes o.type (args.map (evL fr))) rfl ?_
      unfold callK at h
      simp only at h
      have h2 := evsK_ok h
      rw [← map_evs]
      exact toK h2
    | copy =>
      refine hb (s := Builtin.copy_ argTypes o.type (args.map (evL fr))) rfl ?_
      unfold callK at h
      simp only at h
      have h2 := evsK_ok h
      rw [← map_evs]
      exact toK h2
    | _ => exact hfall h

theorem nw_ok {w : World} {o : Obj} {K : Nat → World → Prop} (h : Nw w o K) : SemW P (newObj o) w K := by
  replace h := h.out; exact h
theorem flatten_cells (zs : List Value) (len : Nat) (n : Nat) (hz : zs.length = n + 1) :
    (Array.range (len * (n + 1))).map (fun i => zs.toArray[i % zs.toArray.size]!) = (List.replicate len zs).flatten.toArray := by
  apply Array.ext
  · simp [hz]
  · intro i h1 h2
    simp only [List.size_toArray, List.length_flatten, List.map_replicate, List.sum_replicate_nat, hz] at h2
    simp only [Array.getElem_map, Array.getElem_range, List.getElem_toArray, List.size_toArray, hz]
    have hlt : i % (n + 1) < zs.length := by rw [hz]; exact Nat.mod_lt _ (by omega)
    rw [getElem!_pos _ _ (by simpa using hlt)]
    have hgen : ∀ (len i : Nat) (h : i < (List.replicate len zs).flatten.length), (List.replicate len zs).flatten[i] = zs[i % (n+1)]'(by rw [hz]; exact Nat.mod_lt _ (by omega)) := by
      intro len
      induction len with
      | zero => intro i h; simp at h
      | succ len ih =>
        intro i h
        simp only [List.replicate_succ, List.flatten_cons]
        by_cases hi : i < n + 1
        · rw [List.getElem_append_left (by omega)]
          congr 1
          exact (Nat.mod_eq_of_lt hi).symm
        · rw [List.getElem_append_right (by omega)]
          simp only [hz]
          rw [ih]
          congr 1
          exact (Nat.mod_eq_sub_mod (by omega)).symm
    rw [hgen]
    simp

include hT in
/-- **One operation of the executor is sound.** -/
theorem xv_ok {o : Oper} {fr : Fr} {w : World} {K : Value → World → Prop} (h : xv T P o fr w K) :
    SemW P (execOp (evL fr) o) w (NextW P K) ∧ ∀ c, o.op ≠ .defer c := by
  have hfall : SemN P (execOp (evL fr) o) w (NextW P K) → SemW P (execOp (evL fr) o) w (NextW P K) := fun h => by replace h := h.out; exact h
  have toK : ∀ {s : Sem Value}, SemN P s w K → SemW P s w K := fun h => by replace h := h.out; exact h
  unfold xv at h
  split at h
  · -- move
    rename_i x ho
    refine ⟨?_, by rw [ho]; intro c hc; cases hc⟩
    unfold execOp; rw [ho]
    exact SemW.pure (evK_ok h)
  · rename_i x ho
    refine ⟨?_, by rw [ho]; intro c hc; cases hc⟩
    unfold execOp; rw [ho]
    exact SemW.pure (evK_ok h)
  · -- pick
    rename_i c a b ho
    refine ⟨?_, by rw [ho]; intro c hc; cases hc⟩
    have h1 := evK_ok h
    split at h1
    · rename_i t he
      unfold execOp; rw [ho]
      refine SemW.bind ?_
      rw [he]
      refine SemW.pure ?_
      refine SemW.pure ?_
      cases t
      · exact evK_ok h1
      · exact evK_ok h1
    · exact h1.elim
  · -- alloc
    rename_i e ho
    refine ⟨?_, by rw [ho]; intro c hc; cases hc⟩
    split at h
    · rename_i z hz
      have h1 := nw_ok (P := P) (vcK_ok h)
      unfold execOp; rw [ho]
      refine sv ?_
      unfold Instr.alloc
      refine SemW.bind (.of_run (run_zero_ok hT hz w) ?_)
      refine SemW.bind ?_
      unfold newVar newRow
      refine SemW.bind ?_
      simp only [Array.toArray_toList] at h1
      exact h1.mono fun b w' hk => SemW.pure (SemW.pure hk)
    · exact h.elim
  · -- box
    rename_i e x ho
    refine ⟨?_, by rw [ho]; intro c hc; cases hc⟩
    have h1 := nw_ok (P := P) (vcK_ok (evK_ok h))
    unfold execOp; rw [ho]
    refine sv ?_
    unfold Instr.box newVar newRow
    refine SemW.bind (SemW.bind ?_)
    simp only [Array.toArray_toList] at h1
    exact h1.mono fun b w' hk => SemW.pure (SemW.pure hk)
  · -- build
    rename_i t parts ho
    refine ⟨?_, by rw [ho]; intro c hc; cases hc⟩
    have h1 := partsK_ok h
    have hps : (parts.toList.map fun (i, x) => (i, evL fr x)) = (parts.map fun (i, x) => (i, evL fr x)).toList := by simp
    rw [hps] at h1
    unfold execOp; rw [ho]
    refine sv ?_
    generalize (parts.map fun (i, x) => (i, evL fr x)) = ps at h1
    split at h1
    · rename_i z hz
      have h2 := vcK_ok h1
      unfold Instr.build
      refine SemW.bind (.of_run (run_zero_ok hT hz w) ?_)
      split at h2
      · rename_i fs hu
        refine SemW.bind (.of_run (run_underlying_ok hT hu w) ?_)
        simp only
        obtain ⟨pl, hr, h3⟩ := placesK_ok hT w h2
        obtain ⟨out, hf, hk⟩ := fill_ok h3
        simp only [Array.toArray_toList] at hf
        have hm : (fs.mapM (fun f : Field => do pure (f.offset, ← sizeOf f.type)) : Sem (Array (Nat × Nat))).run P w = .ok pl.toArray w := by
          rw [Array.mapM_eq_mapM_toList, Sem.run_map, hr]
          rfl
        refine SemW.bind (.of_run hm ?_)
        have hpl : (fun x => pl.toArray[x]?) = lkP pl := by
          funext x
          rw [lkP_ok]
          simp
        simp only [hpl, hf]
        exact SemW.pure hk
      · rename_i e hu
        split at h2
        · rename_i n hn
          refine SemW.bind (.of_run (run_underlying_ok hT hu w) ?_)
          simp only
          refine SemW.bind (.of_run (run_sizeOf_ok hT hn w) ?_)
          obtain ⟨out, hf, hk⟩ := fill_ok h2
          simp only [Array.toArray_toList] at hf
          simp only [hf]
          exact SemW.pure hk
        · exact h2.elim
      · exact h2.elim
    · exact h1.elim
  · -- buildSlice
    rename_i t len parts ho
    refine ⟨?_, by rw [ho]; intro c hc; cases hc⟩
    have h1 := partsK_ok h
    have hps : (parts.toList.map fun (i, x) => (i, evL fr x)) = (parts.map fun (i, x) => (i, evL fr x)).toList := by simp
    rw [hps] at h1
    unfold execOp; rw [ho]
    refine sv ?_
    generalize (parts.map fun (i, x) => (i, evL fr x)) = ps at h1
    split at h1
    · rename_i e hu
      split at h1
      · rename_i n hn
        split at h1
        · rename_i z hz
          obtain ⟨hl, h2⟩ := lenK_ok (vcK_ok h1)
          obtain ⟨hle, h3⟩ := leK_ok h2
          cases n with
          | zero => exact h3.elim
          | succ n =>
            simp only at h3
            have h4 := repK_ok h3
            obtain ⟨out, hf, hk⟩ := fill_ok h4
            have hk' := nw_ok (P := P) hk
            unfold Instr.buildSlice
            refine SemW.bind (.of_run (run_underlying_ok hT hu w) ?_)
            simp only
            refine SemW.bind (.of_run (run_sizeOf_ok hT hn w) ?_)
            rw [if_neg (by omega)]
            have hcells : ∀ zero : Array Value, (len * (n + 1) = 0 ∨ zero = z.cells) → ((Array.range (len * (n + 1))).map (zero[· % zero.size]!)) = (List.replicate len z.cells.toList).flatten.toArray := by
              intro zero hzero
              rcases hzero with h0 | rfl
              · have : len = 0 := by
                  rcases Nat.mul_eq_zero.1 h0 with h | h
                  · exact h
                  · omega
                subst this
                simp
              · have := flatten_cells z.cells.toList len n hl
                simpa using this
            by_cases h0 : len * (n + 1) = 0
            · rw [if_pos h0]
              refine SemW.bind (SemW.pure ?_)
              rw [hcells #[] (.inl h0), hf]
              simp only
              refine SemW.bind ?_
              unfold newRow
              refine SemW.bind ?_
              exact hk'.mono fun b w' hk => SemW.pure (SemW.pure hk)
            · rw [if_neg h0]
              refine SemW.bind (.of_run (run_zero_ok hT hz w) ?_)
              refine SemW.bind (SemW.pure ?_)
              rw [hcells z.cells (.inr rfl), hf]
              simp only
              refine SemW.bind ?_
              unfold newRow
              refine SemW.bind ?_
              exact hk'.mono fun b w' hk => SemW.pure (SemW.pure hk)
        · exact h1.elim
      · exact h1.elim
    · exact h1.elim
  · -- load
    rename_i t a ho
    refine ⟨?_, by rw [ho]; intro c hc; cases hc⟩
    have h1 := evK_ok h
    unfold execOp; rw [ho]
    refine sv ?_
    split at h1
    · rename_i ad he
      rw [he]
      exact SemW.bind (.of_run (by rfl) (loadK_ok hT h1))
    · exact h1.elim
  · -- store
    rename_i t a x ho
    refine ⟨?_, by rw [ho]; intro c hc; cases hc⟩
    have h1 := evK_ok (evK_ok (K := fun av => evK fr x fun v => _) h)
    unfold execOp; rw [ho]
    refine su ?_
    split at h1
    · rename_i ad he
      split at h1
      · rename_i n hn
        obtain ⟨hl, h2⟩ := lenK_ok (vcK_ok h1)
        rw [he]
        refine SemW.bind (.of_run (by rfl) ?_)
        unfold storeVar
        refine SemW.bind (.of_run (run_sizeOf_ok hT hn w) ?_)
        rw [if_neg (by simpa using hl)]
        replace h2 := h2.out
        exact h2
      · exact h1.elim
    · exact h1.elim
  · -- nilCheck
    rename_i x ho
    refine ⟨?_, by rw [ho]; intro c hc; cases hc⟩
    have h1 := evK_ok h
    split at h1
    · rename_i a he
      unfold execOp; rw [ho]
      simp only [he]
      exact SemW.pure h1
    · exact hfall h1
  · -- binOp
    rename_i op xt x y yt ho
    refine ⟨?_, by rw [ho]; intro c hc; cases hc⟩
    have h1 := evK_ok (evK_ok (K := fun a => evK fr y fun b => _) h)
    unfold execOp; rw [ho]
    exact sv (binK_ok hT h1)
  · -- unOp
    rename_i op xt x ho
    refine ⟨?_, by rw [ho]; intro c hc; cases hc⟩
    have h1 := evK_ok h
    unfold execOp; rw [ho]
    refine sv ?_
    split at h1
    · rename_i b he
      rw [he]
      exact SemW.pure h1
    · rename_i k n he
      rw [he]
      exact SemW.pure h1
    · exact toK h1
  · -- convert
    rename_i src dst x ho
    refine ⟨?_, by rw [ho]; intro c hc; cases hc⟩
    have h1 := evK_ok h
    unfold execOp; rw [ho]
    refine sv ?_
    split at h1
    · rename_i k n he
      split at h1
      · rename_i k1 k2 hu1 hu2
        rw [he]
        refine .of_run ?_ h1
        unfold convert
        rw [Sem.run_bind, run_underlying_ok hT hu1, Result.andThen_ok, Sem.run_bind, run_underlying_ok hT hu2]
        rfl
      · exact toK h1
    · exact toK h1
  · -- makeFunc
    rename_i fn first cap ho
    refine ⟨?_, by rw [ho]; intro c hc; cases hc⟩
    have h1 := evsK_ok (evsK_ok (K := fun xs => evsK fr cap.toList fun ys => _) h)
    unfold execOp; rw [ho]
    refine sv ?_
    rw [map_evs, map_evs] at h1
    exact SemW.pure h1
  · -- slice
    rename_i t x lo hi mx ho
    refine ⟨?_, by rw [ho]; intro c hc; cases hc⟩
    have h1 := evK_ok h
    have hex : execOp (evL fr) o = (do pure (Next.value (← Instr.sliceAt t (evL fr x) (lo.map (evL fr)) (hi.map (evL fr)) (mx.map (evL fr))))) := by
      unfold execOp; rw [ho]
    split at h1
    · rename_i s hu he
      split at h1
      · rw [hex]
        refine sv ?_
        rw [he]
        unfold Instr.sliceAt
        refine SemW.bind (.of_run (run_underlying_ok hT hu w) ?_)
        simp only
        unfold Instr.slice
        refine SemW.bind (.of_run (run_underlying_ok hT hu w) ?_)
        simp only [Option.map_none, Option.isSome_none, Bool.false_eq_true, if_false]
        have h2 := bndK_ok h1
        have h3 : ∃ l h, l ≤ h ∧ (Instr.sliceBounds false s.size s.size (lo.map (evL fr)) (hi.map (evL fr)) none).run P w = .ok (l, h, s.size) w ∧ K (.string (s.extract l h)) w := by
          cases hi with
          | none =>
            have h4 := bndK_ok h2
            cases lo with
            | none => exact ⟨0, s.size, by omega, rfl, h4⟩
            | some lo =>
              obtain ⟨k, i, hv, hi0, hi1, hk⟩ := h4
              refine ⟨i.toNat, s.size, by omega, ?_, hk⟩
              simp [Instr.sliceBounds, hv, run_sliceBound hi0 hi1]
          | some hi =>
            obtain ⟨k, i, hv, hi0, hi1, h4⟩ := h2
            have h5 := bndK_ok h4
            cases lo with
            | none =>
              refine ⟨0, i.toNat, by omega, ?_, h5⟩
              simp [Instr.sliceBounds, hv, run_sliceBound hi0 hi1]
            | some lo =>
              obtain ⟨k', i', hv', hi0', hi1', hk⟩ := h5
              refine ⟨i'.toNat, i.toNat, by omega, ?_, hk⟩
              simp [Instr.sliceBounds, hv, hv', run_sliceBound hi0 hi1, run_sliceBound hi0' hi1']
        obtain ⟨l, hh, hle, hr, hk⟩ := h3
        exact SemW.bind (.of_run hr (SemW.pure hk))
      · exact h1.elim
    · rename_i e a len cap hu he
      split at h1
      · rename_i n hn
        have h3 : ∃ m hh l, (Instr.sliceBounds true len cap (lo.map (evL fr)) (hi.map (evL fr)) (mx.map (evL fr))).run P w = .ok (l, hh, m) w ∧ K (.slice (sliA a m l n) (hh - l) (m - l)) w := by
          cases hi with
          | none =>
            cases mx with
            | some mx => exact h1.elim
            | none =>
              have h4 := bndK_ok (bndK_ok h1)
              cases lo with
              | none => exact ⟨cap, len, 0, rfl, by simpa [sliA_zero] using h4⟩
              | some lo =>
                obtain ⟨k', i', hv', hi0', hi1', hk⟩ := bndK_ok h4
                refine ⟨cap, len, i'.toNat, ?_, hk⟩
                simp [Instr.sliceBounds, hv', run_sliceBound hi0' hi1']
          | some hi =>
            cases mx with
            | none =>
              obtain ⟨k, i, hv, hi0, hi1, h4⟩ := bndK_ok (bndK_ok h1)
              cases lo with
              | none =>
                refine ⟨cap, i.toNat, 0, ?_, by simpa [sliA_zero] using h4⟩
                simp [Instr.sliceBounds, hv, run_sliceBound hi0 hi1]
              | some lo =>
                obtain ⟨k', i', hv', hi0', hi1', hk⟩ := bndK_ok h4
                refine ⟨cap, i.toNat, i'.toNat, ?_, hk⟩
                simp [Instr.sliceBounds, hv, hv', run_sliceBound hi0 hi1, run_sliceBound hi0' hi1']
            | some mx =>
              obtain ⟨k2, i2, hv2, hi02, hi12, h6⟩ := bndK_ok h1
              obtain ⟨k, i, hv, hi0, hi1, h4⟩ := bndK_ok h6
              cases lo with
              | none =>
                refine ⟨i2.toNat, i.toNat, 0, ?_, by simpa [sliA_zero] using h4⟩
                simp [Instr.sliceBounds, hv, hv2, run_sliceBound hi0 hi1, run_sliceBound hi02 hi12]
              | some lo =>
                obtain ⟨k', i', hv', hi0', hi1', hk⟩ := bndK_ok h4
                refine ⟨i2.toNat, i.toNat, i'.toNat, ?_, hk⟩
                simp [Instr.sliceBounds, hv, hv', hv2, run_sliceBound hi0 hi1, run_sliceBound hi0' hi1', run_sliceBound hi02 hi12]
        obtain ⟨m, hh, l, hr, hk⟩ := h3
        rw [hex]
        refine sv ?_
        rw [he]
        unfold Instr.sliceAt
        refine SemW.bind (.of_run (run_underlying_ok hT hu w) ?_)
        simp only
        unfold Instr.slice
        refine SemW.bind (.of_run (run_underlying_ok hT hu w) ?_)
        simp only
        refine SemW.bind (.of_run hr ?_)
        simp only
        refine SemW.bind (.of_run (run_sizeOf_ok hT hn w) ?_)
        exact SemW.pure hk
      · exact h1.elim
    · exact hfall h1
  · -- fieldAddr
    rename_i s x f ho
    refine ⟨?_, by rw [ho]; intro c hc; cases hc⟩
    have h1 := evK_ok h
    unfold execOp; rw [ho]
    refine sv ?_
    split at h1
    · rename_i ab aoff he
      rw [he]
      split at h1
      · rename_i fs hu
        split at h1
        · rename_i fd hf
          split at h1
          · rename_i m hm
            unfold Instr.fieldAt
            refine SemW.bind (.of_run (run_underlying_ok hT hu w) ?_)
            simp only
            have hf' : fs[f]? = some fd := by
              rw [lkF_ok] at hf
              simpa using hf
            simp only [hf']
            refine SemW.bind (.of_run (by rfl) ?_)
            refine SemW.bind ?_
            unfold fieldPlace
            refine SemW.bind (.of_run (run_sizeOf_ok hT hm w) ?_)
            rw [if_neg (by omega)]
            refine SemW.pure (SemW.pure ?_)
            rw [add_none]
            split at h1
            · rename_i h0
              rw [h0]
              exact h1
            · rename_i k h0
              rw [h0]
              exact h1
          · exact h1.elim
        · exact h1.elim
      · exact h1.elim
    · exact h1.elim
  · -- field
    rename_i t x f ho
    refine ⟨?_, by rw [ho]; intro c hc; cases hc⟩
    have h1 := evK_ok h
    unfold execOp; rw [ho]
    refine sv ?_
    split at h1
    · rename_i cs he
      rw [he]
      split at h1
      · rename_i fs hu
        split at h1
        · rename_i fd hf
          unfold Instr.field
          refine SemW.bind (.of_run (run_underlying_ok hT hu w) ?_)
          simp only
          have hf' : fs[f]? = some fd := by
            rw [lkF_ok] at hf
            simpa using hf
          simp only [hf']
          exact SemW.bind (.of_run (by rfl) (fieldK_ok hT h1))
        · exact h1.elim
      · exact h1.elim
    · exact h1.elim
  · -- indexAddr
    rename_i t x ix ho
    refine ⟨?_, by rw [ho]; intro c hc; cases hc⟩
    have h1 := evK_ok (evK_ok (K := fun v => evK fr ix fun iv => _) h)
    unfold execOp; rw [ho]
    refine sv ?_
    split at h1
    · rename_i k i hi
      split at h1
      · rename_i len e ab aoff hu he
        split at h1
        · rename_i n hn
          obtain ⟨hb, hk⟩ := h1.out
          rw [hi, he]
          refine .of_run ?_ hk
          unfold Instr.indexAt
          simp only [asIntOf, Sem.run_bind, Sem.run_pure, Result.andThen_ok, run_underlying_ok hT hu, Instr.sureAddr]
          rw [if_pos hb]
          simp [run_sizeOf_ok hT hn, add_none]
        · exact h1.elim
      · rename_i e a len cap hu he
        split at h1
        · rename_i n hn
          obtain ⟨hb, hk⟩ := h1.out
          replace hk := hk.out
          obtain ⟨b, off, rfl, hk⟩ := hk
          rw [hi, he]
          refine .of_run ?_ hk
          unfold Instr.indexAt
          simp only [asIntOf, Sem.run_bind, Sem.run_pure, Result.andThen_ok, run_underlying_ok hT hu]
          rw [if_pos hb]
          simp [run_sizeOf_ok hT hn, add_none]
        · exact h1.elim
      · exact h1.elim
    · exact h1.elim
  · -- index
    rename_i t x ix ho
    refine ⟨?_, by rw [ho]; intro c hc; cases hc⟩
    have h1 := evK_ok (evK_ok (K := fun v => evK fr ix fun iv => _) h)
    unfold execOp; rw [ho]
    refine sv ?_
    split at h1
    · rename_i k i hi
      split at h1
      · rename_i s hu he
        obtain ⟨hb, hk⟩ := h1.out
        rw [hi, he]
        refine .of_run ?_ hk
        unfold Instr.index
        simp only [asIntOf, Sem.run_bind, Sem.run_pure, Result.andThen_ok, run_underlying_ok hT hu]
        rw [if_pos hb.1]
        have hlt : i.toNat < s.size := by omega
        have hg : s[i.toNat]? = some (s[i.toNat]'hlt) := by simp [hlt]
        rw [hg]
        simp only [Sem.run_pure, byteAt]
        congr 3
        have hlt' : i.toNat < s.data.toList.length := by simpa using hlt
        rw [List.getD_eq_getElem?_getD, List.getElem?_eq_getElem hlt']
        rfl
      · exact toK h1
    · exact h1.elim
  · -- extract
    rename_i x i ho
    refine ⟨?_, by rw [ho]; intro c hc; cases hc⟩
    have h1 := evK_ok h
    unfold execOp; rw [ho]
    refine sv ?_
    split at h1
    · rename_i vs he
      rw [he]
      split at h1
      · rename_i v hv
        have hv' : vs[i]? = some v := by simpa using hv
        unfold Instr.extract
        simp only [hv']
        exact SemW.pure h1
      · exact h1.elim
    · exact h1.elim
  · -- call
    rename_i c ho
    exact ⟨callK_ok hT ho h, by rw [ho]; intro c hc; cases hc⟩
  · exact h.elim
  · rename_i h1 h2
    refine ⟨hfall h, ?_⟩
    intro c hc
    exact h2 c hc
end sound

end Go.RV
