/- A slice that is made, and one that is copied. Conditions: none. -/
import Derived.Test.YtnhlpmnehdackaaGreatRvR
import Derived.Laws.MakeOwn
import Derived.Laws.IdiomCopy
import Derived.Laws.CopyRow
set_option linter.unusedVariables false
set_option linter.unusedSimpArgs false
namespace Go.RV
open Go Go.RowKit

section
variable {P : Program} {M : List Nat} {w0 w : World} {F L : LM}
theorem mk_i {o : Oper} {ρ : Operand → Value} {t e : TypeId} {lo co : Operand} {n : Nat} {i : TypeInfo} {z : Value} (ho : o.op = .makeSlice t lo co) (hl : ρ lo = .int .i64 n) (hc : ρ co = .int .i64 n) (ht : P.underlying t = some (.slice e)) (hi : P.info? e = some i) (hz : i.zero = some z) (hs1 : i.size = 1)
    (hb : (i.bytes : Int) * n ≤ 281474976710656) (h63 : (n : Int) ≤ 9223372036854775807) (hS : Sf M w0 w F L) {K : Value → World → Prop} (k : ∀ b cs w', cs.size = n → Sf M w0 w' F ((b, .cells cs e (0, 0)) :: L) → K (.slice (some ⟨b, 0, none⟩) n n) w') :
    SemN P (execOp ρ o) w (NextW P K) := by
  have hrun := run_make (P := P) w t e i z ht hi hz .i64 .i64 (n : Int) (n : Int) (Int.natCast_nonneg _) (Int.le_refl _) hb h63
  rw [Int.toNat_natCast, hs1, Nat.mul_one] at hrun
  refine ⟨SemW.of_run (a := .value (.slice (some ⟨w.heap.size, 0, none⟩) n n)) (w' := w.alloc (.cells (madeCells z.cells n) e)) ?_ ?_⟩
  · unfold execOp
    simp only [ho, hl, hc, Sem.run_bind, hrun, Result.andThen_ok]
    rfl
  · refine (nw_f (K := fun b w' => K (.slice (some ⟨b, 0, none⟩) n n) w') hS (o := .cells (madeCells z.cells n) e (0, 0)) (fun b w' hS' => k b _ w' (size_madeCells _ _) hS')).out
theorem cp_i {dT sT ty e : TypeId} {b n c : Nat} {cur : Array Value} {A : Option Addr} {cs : List Value} (hu : P.underlying dT = some (.slice e)) (hs : (P.info? e).map (·.size) = some 1) (hS : Sf M w0 w F L) (k : Nat) (hk : L[k]? = some (b, .cells cur e (0, 0))) (hcur : cur.size = n) (hR : Rd w A cs) (hn : cs.length = n)
    (ho : ∀ y ∈ cs, one y = true) {K : Value → World → Prop} (h : setLK L k (b, .cells cs.toArray e (0, 0)) fun L' => ∀ w', Sf M w0 w' F L' → K (.int .i64 n) w') :
    SemN P (Builtin.copy_ #[dT, sT] ty #[.slice (some ⟨b, 0, none⟩) n n, .slice A n c]) w K := by
  have h1 := setLK_ok h
  have hblk := hS.st.block _ (hS.idx k hk)
  have hS2 := hS.set (w' := w.setRow b cs.toArray) k hk (.cells cs.toArray e (0, 0)) ⟨setRow_size _ _ _, rfl, rfl, rfl⟩ (setRow_heap w b cur _ e _ hblk) (fun j hj => setRow_other w b j _ hj)
  rcases hR with hnil | ⟨ab, ao, rfl, hc⟩
  · subst hnil
    have hn0 : n = 0 := by simpa using hn.symm
    subst hn0
    have hrun := run_copy_none (P := P) w dT sT ty e (some ⟨b, 0, none⟩) A 0 0 0 c hu hs (by simp)
    have hce : cur = #[] := Array.eq_empty_of_size_eq_zero hcur
    have hS3 : Sf M w0 w F (L.set k (b, .cells ([] : List Value).toArray e (0, 0))) := by
      have e1 : L.set k (b, .cells ([] : List Value).toArray e (0, 0)) = L := by
        apply List.ext_getElem?
        intro j
        rw [List.getElem?_set]
        split
        · rename_i e2
          subst e2
          rw [hk, hce]
          have : k < L.length := (List.getElem?_eq_some_iff.1 hk).1
          simp [this]
        · rfl
      rw [e1]
      exact hS
    exact ⟨SemW.of_run hrun (h1 _ hS3)⟩
  · have hrun := run_copy_row (P := P) w dT sT ty e b 0 n n ⟨ab, ao, none⟩ n c cur e cs hu hs hblk (by rw [hn]; simp) (fun j v hj => by rw [add_none]; exact hc j v hj) (by omega) (fun v hv => by rw [← one_eq]; exact ho v hv)
    have ed : (cur.toList.take 0 ++ cs ++ cur.toList.drop (0 + cs.length)).toArray = cs.toArray := by
      rw [List.drop_eq_nil_of_le (by simp; omega)]
      simp
    rw [ed, hn] at hrun
    exact ⟨SemW.of_run hrun (h1 _ hS2)⟩
end
end Go.RV
