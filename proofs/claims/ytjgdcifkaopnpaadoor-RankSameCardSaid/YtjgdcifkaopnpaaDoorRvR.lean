/- Two structs by value, compared: field by field. Conditions: none. -/
import Derived.Test.YtjgdcifkaopnpaaDoorRvM
import Derived.Laws.StructEq
import Derived.Laws.IdiomStrings
import Derived.Laws.BytesArg
import Derived.Lib.ConvBytes
import Derived.RangeFuncIn
import Derived.RangeFuncRecord
set_option linter.unusedVariables false
set_option linter.unusedSimpArgs false
namespace Go.RV
open Go Go.RowKit

section
variable {P : Program} {d : Nat} {xs ys : Array Value} {f : Field} {fs : List Field} {r s : Bool} {w : World} {t : TypeId}

theorem part_plain {v : Value} {o : Nat} (ht : ∃ u, P.underlying t = some u ∧ (∀ fs, u ≠ .struct fs) ∧ ∀ n e, u ≠ .array n e) (hv : xs[o]? = some v) : (part t xs o).run P w = .ok v w := by
  obtain ⟨u, hu, h1, h2⟩ := ht
  unfold part
  rw [Sem.run_bind]
  have ha : (isAgg t).run P w = .ok false w := by
    unfold isAgg
    rw [Sem.run_bind, run_underlying hu]
    cases u <;> simp_all
  rw [ha]
  simp [hv]

/-- what a field's two values answer -/
def EqF (P : Program) (t : TypeId) (a b : Value) (r : Bool) : Prop := ∀ d w, (Op.equalIn (d + 1) t a b).run P w = .ok r w ∧ ∃ u, P.underlying t = some u ∧ (∀ fs, u ≠ .struct fs) ∧ ∀ n e, u ≠ .array n e
theorem EqF.int {k k' : IntKind} {a b : Int} (h : P.underlying t = some (.int k')) : EqF P t (.int k a) (.int k b) (a == b) :=
  fun d w => ⟨run_equalIn_int w d t k k' a b h, _, h, by simp, by simp⟩
theorem EqF.bool {a b : Bool} (h : P.underlying t = some .bool) : EqF P t (.bool a) (.bool b) (a == b) :=
  fun d w => ⟨run_equalIn_bool' w d t a b h, _, h, by simp, by simp⟩
theorem EqF.string {a b : ByteArray} (h : P.underlying t = some .string) : EqF P t (.string a) (.string b) (a.toList == b.toList) :=
  fun d w => ⟨run_equalIn_string w d t a b h, _, h, by simp, by simp⟩

theorem eqF_nil : (Op.eqFields (d + 1) xs ys []).run P w = .ok true w := by simp [Op.eqFields]
theorem eqF_cons {a b : Value} (hn : (f.name == "_") = false) (ha : xs[f.offset]? = some a) (hb : ys[f.offset]? = some b) (he : EqF P f.type a b r) (hr : (Op.eqFields (d + 1) xs ys fs).run P w = .ok s w) : (Op.eqFields (d + 1) xs ys (f :: fs)).run P w = .ok (r && s) w := by
  have hn' : f.name ≠ "_" := by simpa using hn
  have h1 := he d w
  rw [Op.eqFields]
  simp only [if_pos hn', Sem.run_bind, part_plain h1.2 ha, part_plain h1.2 hb, h1.1, Result.andThen_ok]
  cases r
  · simp
  · simpa using hr

theorem eqS_i {fs : Array Field} {x y : Operand} {K : Value → World → Prop} (hm : P.eqGuardType P.depth t = false) (hu : P.underlying t = some (.struct fs)) (hp : P.stoodInHeld t = false) (h : (Op.eqFields 9999 xs ys fs.toList).run P w = .ok r w) (k : K (.bool r) w) :
    SemN P (do eqGuard .eql t x y (.agg xs) (.agg ys); binOp .eql t (.agg xs) (.agg ys)) w K := by
  refine ⟨SemW.of_run (a := .bool r) (w' := w) ?_ k⟩
  have hf : P.fieldsOf t = fs := by simp [Program.fieldsOf, hu]
  rw [Sem.run_bind, run_eqGuard_agg w .eql t x y xs ys hm, Result.andThen_ok, run_eql_struct, run_equalIn_struct w 9999 t xs ys (by rw [hf]; exact hu) hp, hf, h, Result.andThen_ok]
theorem neS_i {fs : Array Field} {x y : Operand} {K : Value → World → Prop} (hm : P.eqGuardType P.depth t = false) (hu : P.underlying t = some (.struct fs)) (hp : P.stoodInHeld t = false) (h : (Op.eqFields 9999 xs ys fs.toList).run P w = .ok r w) (k : K (.bool (!r)) w) :
    SemN P (do eqGuard .neq t x y (.agg xs) (.agg ys); binOp .neq t (.agg xs) (.agg ys)) w K := by
  refine ⟨SemW.of_run (a := .bool (!r)) (w' := w) ?_ k⟩
  have hf : P.fieldsOf t = fs := by simp [Program.fieldsOf, hu]
  rw [Sem.run_bind, run_eqGuard_agg w .neq t x y xs ys hm, Result.andThen_ok, run_neq_struct, run_equalIn_struct w 9999 t xs ys (by rw [hf]; exact hu) hp, hf, h, Result.andThen_ok]
end
end Go.RV

/- Bytes: conversions between strings and slices of bytes. Conditions: none. -/
set_option linter.unusedVariables false
set_option linter.unusedSimpArgs false
namespace Go.RV
open Go Go.RowKit

def encY (y : UInt8) : List Value := [.int .u8 (y.toNat : Int)]
theorem encY_len (y : UInt8) : (encY y).length = 1 := rfl
def strY (bs : List UInt8) : ByteArray := ⟨bs.toArray⟩
theorem strY_size (bs : List UInt8) : (strY bs).size = bs.length := by simp [strY, ByteArray.size]
theorem strY_append (as bs : List UInt8) : strY as ++ strY bs = strY (as ++ bs) := by
  apply ByteArray.ext
  simp [strY]
theorem strY_of (s : ByteArray) : strY s.data.toList = s := by
  apply ByteArray.ext
  simp [strY]
theorem strY_inj {as bs : List UInt8} : strY as = strY bs ↔ as = bs := by
  constructor
  · intro h
    have := congrArg (fun s => s.data.toList) h
    simpa [strY] using this
  · rintro rfl; rfl
theorem flatY_get {bs : List UInt8} {j : Nat} (hj : j < bs.length) : (flat encY bs)[j]? = some (.int .u8 (bs[j].toNat : Int)) := by
  have := flat_get encY_len bs j hj 0 (by omega)
  simpa [encY] using this

section
variable {P : Program} {w w0 : World} {M : List Nat} {F L : LM}

theorem bStr_i {src dst e n c : Nat} {A : Option Addr} {bs : List UInt8} {K : Value → World → Prop} (hs : P.underlying src = some (.slice e)) (he : P.underlying e = some (.int .u8)) (hd : P.underlying dst = some .string) (hR : Rd w A (flat encY bs)) (hn : n = bs.length) (k : K (.string (strY bs)) w) :
    SemN P (convert src dst (.slice A n c)) w K := by
  subst hn
  refine ⟨SemW.of_run (w' := w) (a := .string (strY bs)) ?_ k⟩
  rcases hR with h | ⟨b, off, rfl, h⟩
  · have hb : bs = [] := by
      cases bs with
      | nil => rfl
      | cons x xs => simp [flat, encY] at h
    subst hb
    cases A with
    | none => exact run_convert_bytes_nil w src e hs he _ _ dst hd
    | some a => exact run_convert_bytes_back w src dst e a c [] hs he hd (fun j hj => by simp at hj)
  · refine run_convert_bytes_back w src dst e _ c bs hs he hd fun j hj => ?_
    rw [add_none]
    exact h j _ (flatY_get hj)

/-- the row of a conversion: the bytes, then some zeros -/
structure RowY (C : Array Value) (bs : List UInt8) : Prop where
  get : ∀ j, (hj : j < bs.length) → C.toList[j]? = some (.int .u8 (bs[j].toNat : Int))
theorem RowY.rd {C : Array Value} {bs : List UInt8} (h : RowY C bs) {e : TypeId} {fz : Nat × Nat} {b : Nat} (hS : Sf M w0 w F ((b, .cells C e fz) :: L)) : Rd w (some ⟨b, 0, none⟩) (flat encY bs) := by
  refine .inr ⟨_, 0, rfl, fun j v hj => ?_⟩
  have hjl : j < bs.length := by
    have := (List.getElem?_eq_some_iff.1 hj).1
    rw [flat_length encY_len] at this
    simpa using this
  rw [flatY_get hjl] at hj
  rw [Nat.zero_add]
  exact hS.cell 0 rfl ((h.get j hjl).trans hj)

theorem sBytes_i {src dst e : Nat} {s : ByteArray} {K : Value → World → Prop} (hs : P.underlying src = some .string) (hd : P.underlying dst = some (.slice e)) (he : P.underlying e = some (.int .u8)) (hS : Sf M w0 w F L)
    (h : ∀ b cap C w', s.size ≤ cap → RowY C s.data.toList → Sf M w0 w' F ((b, .cells C e (C.size, C.size + 1)) :: L) → K (.slice (some ⟨b, 0, none⟩) s.size cap) w') : SemN P (convert src dst (.string s)) w K := by
  refine ⟨SemW.of_run (run_bytes_of_string w src dst e s hs hd he) ?_⟩
  have h1 : Nw w.drew (.cells (bytesRow s (grownCap w s.size 0 e)) e ((bytesRow s (grownCap w s.size 0 e)).size, (bytesRow s (grownCap w s.size 0 e)).size + 1)) fun b w' => K (.slice (some ⟨b, 0, none⟩) s.size (grownCap w s.size 0 e)) w' := by
    refine nw_f (hS.drew _) fun b w' hS' => h b _ _ w' (grownCap_ge w s.size 0 e) ⟨fun j hj => ?_⟩ hS'
    have hj2 : j < s.data.size := hj
    unfold bytesRow
    rw [Array.getElem?_toList, Array.getElem?_append_left (by rw [Array.size_map]; exact hj2), Array.getElem?_map, Array.getElem?_eq_getElem hj2]
    rfl
  exact h1.out
end
end Go.RV

/- A callee that turns blocks of its caller's. Conditions: none. -/
set_option linter.unusedVariables false
set_option linter.unusedSimpArgs false
namespace Go.RV
open Go Go.RowKit

def keys (L : LM) : List Nat := L.map (·.1)
section
variable {M : List Nat} {w0 w w' : World} {F L L' Lw : LM}

theorem St.own' (h : St M w0 w L) (hs : Lw.Sublist L) : St (keys Lw) w w Lw :=
  ⟨rfl, rfl, rfl, Nat.le_refl _, fun _ _ _ => rfl, fun b o hb => h.own b o (hs.subset hb), fun b o hb => .inr (List.mem_map.2 ⟨_, hb, rfl⟩), List.Nodup.sublist (hs.map _) h.nod⟩
theorem Sf.ownF (h : Sf M w0 w (Lw ++ F) L) : St (keys Lw) w w Lw :=
  h.st.own' (List.Sublist.trans (List.sublist_append_left Lw F) (List.sublist_append_left (Lw ++ F) L))
theorem Sf.ownL (h : Sf M w0 w F L) (hs : Lw.Sublist L) : St (keys Lw) w w Lw :=
  h.st.own' (hs.trans (List.sublist_append_right F L))
theorem Sf.callW (h : Sf M w0 w (Lw ++ F) L) (h' : St (keys Lw) w w' L') : Sf M w0 w' (L' ++ F) L := by
  refine ⟨?_⟩
  have h1 : St M w0 w (Lw ++ (F ++ L)) := by simpa using h.st
  have h2 := h1.callM h' (Lk := F ++ L) (fun b hb => by
    obtain ⟨⟨b', o⟩, hm, rfl⟩ := List.mem_map.1 hb
    exact ⟨o, List.mem_append_left _ hm⟩) (List.sublist_append_right Lw (F ++ L)) (fun x hx hk => by
    have hn := h1.nod
    rw [List.map_append, List.nodup_append] at hn
    exact hn.2.2 x.1 hk x.1 (List.mem_map.2 ⟨x, hx, rfl⟩) rfl)
  simpa using h2
theorem St.toSf (h : St M w0 w (Lw ++ L)) : Sf M w0 w Lw L := ⟨h⟩
end
theorem Rd.form {A : Option Addr} {cs : List Value} {w : World} (hR : Rd w A cs) (hne : cs ≠ []) : ∃ b off, A = some ⟨b, off, none⟩ := by
  rcases hR with h | ⟨b, off, rfl, _⟩
  · exact absurd h hne
  · exact ⟨b, off, rfl⟩
theorem Rd.at {b off : Nat} {cs : List Value} {w : World} (hR : Rd w (some ⟨b, off, none⟩) cs) : ∀ j v o, cs[j]? = some v → o = off + j → w.cell? ⟨b, o, none⟩ = some v := by
  intro j v o hj ho
  rcases hR with h | ⟨b', off', e, h⟩
  · subst h; simp at hj
  · cases e; rw [ho]; exact h j v hj
theorem Sl.rdM {e sz : Nat} {A : Option Addr} {c n : Nat} {cs : List Value} {Lv F L : LM} {M : List Nat} {w0 w : World} (h : Sl e sz (.slice A n c) n cs Lv) (hS : Sf M w0 w F L) (hs : ∀ x ∈ Lv, x ∈ F) : Rd w A cs :=
  h.rd hS.st (fun x hx => List.mem_append_left _ (hs x hx))
theorem br_t {c : Bool} {A B : Prop} (h : c = true) (k : A) : brK c A B := br_i (fun _ => k) (fun h' => absurd (h.symm.trans h') (by decide))
theorem br_f {c : Bool} {A B : Prop} (h : c = false) (k : B) : brK c A B := br_i (fun h' => absurd (h'.symm.trans h) (by decide)) (fun _ => k)
end Go.RV

/- A range over a function: the statement, its rounds, the deferred mark. Conditions: none. -/
set_option linter.unusedVariables false
set_option linter.unusedSimpArgs false
namespace Go.RV
open Go Go.RowKit

/-- a round begins -/
structure BeginN (l : Nat) (w : World) (K : World → Prop) : Prop where
  out : ∃ r : Loop, w.heap[l]? = some (.loop r) ∧ r.state = .ready ∧ K (w.putObj l (.loop { r with state := .busy }))
/-- a round ends -/
structure EndN (l : Nat) (jump : Option Code) (w : World) (K : Value → World → Prop) : Prop where
  out : ∃ r : Loop, w.heap[l]? = some (.loop r) ∧ K (.bool jump.isNone) (w.putObj l (.loop { r with state := if jump.isNone then .ready else .done, pending := jump }))
def roundQ (l : Nat) (K : Value → World → Prop) : Post := fun e fr ds w => match e with
  | .normal => EndN l none w K
  | .ret => EndN l (some .ret) w K
  | .exit id => EndN l (some (.exit id)) w K
  | .goto t => EndN l (some (.goto t)) w K
  | _ => Stk "a round"
def beginQ (T : Tab) (P : Program) (l : Nat) (body : Code) (K : Value → World → Prop) : Post := fun e fr ds w => match e with
  | .normal => BeginN l w fun w => X T P (some l) body (roundQ l K) fr ds w
  | _ => Stk "a round's left sides"
/-- the function that was ranged over has returned -/
structure LoopEnd (P : Program) (r : Option Nat) (l : Nat) (Q : Post) (fr : Fr) (ds : List Deferred) (w : World) : Prop where
  out : ∃ rec : Loop, w.heap[l]? = some (.loop rec) ∧ rec.state ≠ .busy ∧ (match rec.pending with
    | none => Q .normal fr ds (w.putObj l (.loop { rec with state := .exhausted }))
    | some c => Wp P r c Q fr ds (w.putObj l (.loop { rec with state := .exhausted })))

section
variable {P : Program} {T : Tab} {w w0 : World} {M : List Nat} {F L : LM}

theorem run_callFunc_body {f : FuncId} {fn : Func} {c : Code} {args : Array Value} (hf : P.funcs[f]? = some fn) (hb : fn.body = some c) (hn : (fn.name == "runtime.NumGoroutine") = false) : (callFunc f args).run P w = .ok (.enter f args) w := by
  unfold callFunc
  rw [Sem.run_bind]
  have hp : (Go.program).run P w = .ok P w := rfl
  rw [hp]
  simp only [Result.andThen, hf, hn, hb, Option.isNone_some, Bool.false_eq_true, if_false]
  rfl
theorem yield_i (hT : TabOk P T) {l : Nat} {args : List Value} {rec : Loop} {fr0 : Fr} {K : Value → World → Prop} (hl : w.heap[l]? = some (.loop rec)) (hs : args.length = rec.params.size)
    (hfr : (rec.params.zip args.toArray).foldl (fun tmps (t, a) => tmps.setIfInBounds t a) rec.tmps = fr0.toArray) (h : X T P (some l) rec.assign (beginQ T P l rec.body K) fr0 [] w) :
    Cv P (.func (.yield l) #[] #[]) args w K := by
  refine ⟨SemW.of_run (w' := w) (a := .round l rec.fn fr0.toArray rec.assign rec.body) ?_ ?_⟩
  · have h1 := run_yield (P := P) (args := args.toArray) hl (by simpa using hs)
    rw [hfr] at h1
    simpa [Deferred.ofValue, invoke, Sem.run_bind, Result.andThen] using h1
  · refine roundIn_of_wpIn trivial ?_
    have h1 := (X_ok hT (some l) rec.assign h).out 0
    refine wpIn_mono h1 ?_
    rintro e a' w' ⟨fr, ds, rfl, hq⟩
    cases e with
    | normal =>
      obtain ⟨r, hr, hst, hk⟩ := hq.out
      refine ⟨_, run_beginRound hr hst, ?_⟩
      have h2 := (X_ok hT (some l) rec.body hk).out 0
      refine wpIn_mono h2 ?_
      rintro e a' w'' ⟨fr, ds, rfl, hq⟩
      cases e with
      | normal => obtain ⟨r, hr, hk⟩ := hq.out; exact ⟨_, _, run_endRound _ hr, _, rfl, hk⟩
      | ret => obtain ⟨r, hr, hk⟩ := hq.out; exact ⟨_, _, run_endRound _ hr, _, rfl, hk⟩
      | exit id => obtain ⟨r, hr, hk⟩ := hq.out; exact ⟨_, _, run_endRound _ hr, _, rfl, hk⟩
      | goto t => obtain ⟨r, hr, hk⟩ := hq.out; exact ⟨_, _, run_endRound _ hr, _, rfl, hk⟩
      | panic c => exact Stk.elim hq
      | outgrown => exact Stk.elim hq
    | _ => exact Stk.elim hq

theorem yield1_i (hT : TabOk P T) {l t : Nat} {a : Value} {rec : Loop} {K : Value → World → Prop} (hl : w.heap[l]? = some (.loop rec)) (hs : rec.params = #[t])
    (h : setK rec.tmps.toList t a fun fr0 => X T P (some l) rec.assign (beginQ T P l rec.body K) fr0 [] w) : Cv P (.func (.yield l) #[] #[]) [a] w K := by
  refine yield_i hT (fr0 := rec.tmps.toList.set t a) hl (by rw [hs]; rfl) ?_ (setK_ok h)
  rw [hs]
  apply Array.ext'
  simp
theorem yield0_i (hT : TabOk P T) {l : Nat} {rec : Loop} {K : Value → World → Prop} (hl : w.heap[l]? = some (.loop rec)) (hs : rec.params = #[])
    (h : X T P (some l) rec.assign (beginQ T P l rec.body K) rec.tmps.toList [] w) : Cv P (.func (.yield l) #[] #[]) [] w K := by
  refine yield_i hT (fr0 := rec.tmps.toList) hl (by rw [hs]; rfl) ?_ h
  rw [hs]
  simp
theorem yield2_i (hT : TabOk P T) {l t t' : Nat} {a a' : Value} {rec : Loop} {K : Value → World → Prop} (hl : w.heap[l]? = some (.loop rec)) (hs : rec.params = #[t, t'])
    (h : setK rec.tmps.toList t a fun fr0 => setK fr0 t' a' fun fr0 => X T P (some l) rec.assign (beginQ T P l rec.body K) fr0 [] w) : Cv P (.func (.yield l) #[] #[]) [a, a'] w K := by
  refine yield_i hT (fr0 := (rec.tmps.toList.set t a).set t' a') hl (by rw [hs]; rfl) ?_ (setK_ok (setK_ok h))
  rw [hs]
  apply Array.ext'
  simp

theorem range_i {g : Operand} {ps : Array Tmp} {assign body : Code} {Q : Post} {fr : Fr} {ds : List Deferred} {f : FuncId} {fn : Func} {c : Code} {first cap : Array Value} (hg : evL fr g = .func (.func f) first cap)
    (hf : P.funcs[f]? = some fn) (hb : fn.body = some c) (hn : (fn.name == "runtime.NumGoroutine") = false) (hS : Sf M w0 w F L)
    (h : ∀ fi bd l w1, Sf M w0 w1 F ((l, .loop { state := .ready, pending := none, fn := fi, tmps := fr.toArray, params := ps, assign := assign, body := body, defers := bd }) :: (bd, .deferred (some [])) :: L) →
      Fc P f (first.toList ++ ([.func (.yield l) #[] #[]] ++ cap.toList)) w1 fun v w3 => LoopEnd P none l Q fr ({ target := .collected bd, args := #[] } :: ds) w3) :
    Wp P none (.rangeFunc g ps assign body) Q fr ds w := by
  refine .of fun n => wpIn_rangeFunc fun fi _ => ?_
  have h1 : Nw w (.deferred (some [])) fun bd w' => Nw w' (.loop { state := .ready, pending := none, fn := fi, tmps := fr.toArray, params := ps, assign := assign, body := body, defers := bd }) fun l w1 => Fc P f (first.toList ++ ([.func (.yield l) #[] #[]] ++ cap.toList)) w1 fun v w3 => LoopEnd P none l Q fr ({ target := .collected bd, args := #[] } :: ds) w3 := by
    refine nw_f hS fun bd w' hS' => ?_
    refine nw_f hS' fun l w1 hS'' => ?_
    exact h fi bd l w1 hS''
  have h2 := h1.out.out
  have hsz : ({ w with heap := w.heap.push (.deferred (some [])) } : World).heap.size = w.heap.size + 1 := by simp
  rw [hsz] at h2
  have h3 := calls_of_fc hf hb hn h2
  have ev : (Act.mk fr.toArray ds).eval g = .func (.func f) first cap := by rw [eval_eq]; exact hg
  have ea : (first.toList ++ ([Value.func (.yield (w.heap.size + 1)) #[] #[]] ++ cap.toList)).toArray = first ++ #[.func (.yield (w.heap.size + 1)) #[] #[]] ++ cap := by
    apply Array.ext'
    simp
  rw [ea] at h3
  let W1 : World := (w.alloc (.deferred (some []))).alloc (.loop { state := .ready, pending := none, fn := fi, tmps := fr.toArray, params := ps, assign := assign, body := body, defers := w.heap.size })
  refine ⟨w.heap.size + 1, [{ target := .collected w.heap.size, args := #[] }], W1, { target := .fn (.func f) cap, args := first ++ #[.func (.yield (w.heap.size + 1)) #[] #[]] }, W1, f, first ++ #[.func (.yield (w.heap.size + 1)) #[] #[]] ++ cap, W1,
    run_enterLoop_outer fi fr.toArray ps assign body, ?_, fun _ _ => trivial, ?_, fun hd => by simp [FR_depth] at hd, ?_⟩
  · simp [resolve, rangeCall, ev, Deferred.ofValue]
    rfl
  · exact run_callFunc_body hf hb hn
  · refine FR_calls none _ (Calls.mono h3 ?_)
    rintro e w3 ⟨v, rfl, rec, hr, hst, hk⟩
    refine ⟨rec.pending, _, run_endLoop hr hst, ?_⟩
    revert hk
    cases rec.pending with
    | none => exact fun hk => ⟨fr, _, rfl, hk⟩
    | some c => exact fun hk => hk.out n

theorem take_f {r : Nat} {K : World → Prop} (hS : Sf M w0 w F L) (k : Nat) (hk : L[k]? = some (r, .deferred (some []))) (h : ∀ w', Sf M w0 w' F (L.set k (r, .deferred none)) → K w') : TakeN r w K := by
  have hb := hS.st.block (F.length + k) (hS.idx k hk)
  refine ⟨hb, h _ (hS.set k hk _ ⟨by simp, rfl, rfl, rfl⟩ ?_ ?_)⟩
  · have hlt : r < w.heap.size := (Array.getElem?_eq_some_iff.1 hb).1
    simp [hlt]
  · intro j hj
    simp [Array.getElem?_setIfInBounds, Ne.symm hj]
theorem Sf.putObj (hS : Sf M w0 w F L) (k : Nat) {b : Nat} {o : Obj} (hk : L[k]? = some (b, o)) (o' : Obj) : Sf M w0 (w.putObj b o') F (L.set k (b, o')) := by
  have hb := hS.st.block (F.length + k) (hS.idx k hk)
  have hlt : b < w.heap.size := (Array.getElem?_eq_some_iff.1 hb).1
  refine hS.set k hk _ ⟨by simp [World.putObj], rfl, rfl, rfl⟩ ?_ ?_
  · simp [World.putObj, hlt]
  · intro j hj
    simp [World.putObj, Array.getElem?_setIfInBounds, Ne.symm hj]
theorem begin_f {l : Nat} {r : Loop} {K : World → Prop} (hS : Sf M w0 w F L) (k : Nat) (hk : L[k]? = some (l, .loop r)) (hr : r.state = .ready) (h : ∀ w', Sf M w0 w' F (L.set k (l, .loop { r with state := .busy })) → K w') : BeginN l w K :=
  ⟨r, hS.st.block (F.length + k) (hS.idx k hk), hr, h _ (hS.putObj k hk _)⟩
theorem end_f {l : Nat} {r : Loop} {j : Option Code} {K : Value → World → Prop} (hS : Sf M w0 w F L) (k : Nat) (hk : L[k]? = some (l, .loop r)) (h : ∀ w', Sf M w0 w' F (L.set k (l, .loop { r with state := if j.isNone then .ready else .done, pending := j })) → K (.bool j.isNone) w') : EndN l j w K :=
  ⟨r, hS.st.block (F.length + k) (hS.idx k hk), h _ (hS.putObj k hk _)⟩
theorem loopEnd_f {l : Nat} {r : Loop} {rr : Option Nat} {Q : Post} {fr : Fr} {ds : List Deferred} (hS : Sf M w0 w F L) (k : Nat) (hk : L[k]? = some (l, .loop r)) (hr : r.state = .ready) (hp : r.pending = none) (h : ∀ w', Sf M w0 w' F (L.set k (l, .loop { r with state := .exhausted })) → Q .normal fr ds w') : LoopEnd P rr l Q fr ds w := by
  refine ⟨r, hS.st.block (F.length + k) (hS.idx k hk), by rw [hr]; decide, ?_⟩
  have h1 := h _ (hS.putObj k hk (.loop { r with state := .exhausted }))
  split
  · exact h1
  · rename_i e
    rw [hp] at e
    cases e
theorem Sf.obj (hS : Sf M w0 w F L) (k : Nat) {b : Nat} {o : Obj} (hk : L[k]? = some (b, o)) : w.heap[b]? = some o := hS.st.block (F.length + k) (hS.idx k hk)
end
end Go.RV
