/- Memory in two lists: F stands aside, L is told block by block. Conditions: none. -/
import Derived.Test.YtedoalnjdanebaaRvL
set_option linter.unusedVariables false
set_option linter.unusedSimpArgs false
namespace Go.RV
open Go Go.RowKit

structure Sf (M : List Nat) (w0 w : World) (F L : LM) : Prop where
  st : St M w0 w (F ++ L)

theorem Sf.refl (w : World) : Sf [] w w [] [] := ⟨St.refl w⟩
theorem St.sf {M : List Nat} {w0 w : World} {L : LM} (h : St M w0 w L) : Sf M w0 w [] L := ⟨h⟩
theorem St.aside {M : List Nat} {w0 w : World} {L : LM} (h : St M w0 w L) : Sf M w0 w L [] := ⟨by simpa using h⟩

section
variable {P : Program} {M : List Nat} {w0 w w' : World} {F F' L L' Ls Fs : LM}

theorem Sf.nil (h : Sf M w0 w F L) : St M w0 w [] := h.st.nil
theorem Sf.sub (h : Sf M w0 w F L) (hs : L'.Sublist L) : St M w0 w L' := h.st.sub (hs.trans (List.sublist_append_right F L))
theorem Sf.fr (h : Sf M w0 w F L) (hs : F'.Sublist F) : St M w0 w F' := h.st.sub (hs.trans (List.sublist_append_left F L))
theorem Sf.subs (h : Sf M w0 w F L) (hf : F'.Sublist F) (hs : L'.Sublist L) : Sf M w0 w F' L' := ⟨h.st.sub (List.Sublist.append hf hs)⟩
theorem Sf.both (h : Sf M w0 w F L) (hf : F'.Sublist F) (hs : L'.Sublist L) : St M w0 w (F' ++ L') := (h.subs hf hs).st
/-- L's blocks go aside -/
theorem Sf.put (h : Sf M w0 w F L) : Sf M w0 w (F ++ L) [] := ⟨by simpa using h.st⟩
theorem Sf.swap (h : Sf M w0 w (F ++ F') L) : Sf M w0 w (F' ++ F) L := ⟨h.st.perm (List.Perm.append_right L List.perm_append_comm)⟩
theorem Sf.rot (h : Sf M w0 w (F ++ (F' ++ Fs)) L) : Sf M w0 w (F' ++ (F ++ Fs)) L := ⟨h.st.perm (List.Perm.append_right L (List.perm_append_comm_assoc F' F Fs))⟩
theorem Sf.drew (h : Sf M w0 w F L) (n : Nat) : Sf M w0 { w with drawn := n } F L := ⟨h.st.drew n⟩
theorem Sf.below (h : Sf [] w0 w F L) : Below w0.heap.size w0 w := h.st.below
theorem Sf.size (h : Sf M w0 w F L) : w0.heap.size ≤ w.heap.size := h.st.size
theorem Sf.idx (h : Sf M w0 w F L) (k : Nat) {x : Nat × Obj} (hk : L[k]? = some x) : (F ++ L)[F.length + k]? = some x := by
  rw [List.getElem?_append_right (by omega)]
  simpa using hk
theorem Sf.cell (h : Sf M w0 w F L) (k : Nat) {b off : Nat} {cs : Array Value} {e : TypeId} {fz : Nat × Nat} {v : Value} (hk : L[k]? = some (b, .cells cs e fz)) (hv : cs.toList[off]? = some v) : w.cell? ⟨b, off, none⟩ = some v :=
  h.st.cell (F.length + k) (h.idx k hk) hv
theorem Sf.holds (h : Sf M w0 w F L) (hs : Ls.Sublist L) : Holds w Ls := fun x hx => (h.sub hs).own x.1 x.2 hx
theorem Sf.holdsF (h : Sf M w0 w F L) (hs : Fs.Sublist F) : Holds w Fs := fun x hx => (h.fr hs).own x.1 x.2 hx

theorem Sf.call0 (h : Sf M w0 w F L) (h' : St [] w w' []) : Sf M w0 w' F L := ⟨h.st.call0 h'⟩
/-- what the call made is told behind the others -/
theorem Sf.call' (h : Sf M w0 w F L) (h' : St [] w w' L') : Sf M w0 w' F (L ++ L') := ⟨by simpa using h.st.call' h'⟩
/-- what the call made is told ahead -/
theorem Sf.callH (h : Sf M w0 w F L) (h' : St [] w w' L') : Sf M w0 w' F (L' ++ L) := by
  refine ⟨(h.st.call h').perm ?_⟩
  exact List.perm_append_comm_assoc F L' L
/-- what the call made goes aside -/
theorem Sf.callF (h : Sf M w0 w F L) (h' : St [] w w' L') : Sf M w0 w' (L' ++ F) L := ⟨by simpa using h.st.call h'⟩

theorem nw_f {o : Obj} {K : Nat → World → Prop} (hS : Sf M w0 w F L) (h : ∀ b w', Sf M w0 w' F ((b, o) :: L) → K b w') : Nw w o K :=
  nw_s hS.st fun b w' h' => h b w' ⟨h'.perm List.perm_middle⟩
theorem ld_f {b off : Nat} {cs : Array Value} {e : TypeId} {fz : Nat × Nat} {v : Value} {K : Value → Prop} (hS : Sf M w0 w F L) (k : Nat) (hk : L[k]? = some (b, .cells cs e fz)) (hv : cs.toList[off]? = some v) (h : K v) : Ld w ⟨b, off, none⟩ K :=
  ld_i v (hS.cell k hk hv) h
theorem ldN_f {b off n : Nat} {cs : Array Value} {e : TypeId} {fz : Nat × Nat} {K : List Value → Prop} (hS : Sf M w0 w F L) (k : Nat) (hk : L[k]? = some (b, .cells cs e fz)) (hn : off + n ≤ cs.toList.length) (h : K ((cs.toList.drop off).take n)) : LdN w ⟨b, off, none⟩ n K :=
  ldN_s hS.st _ (hS.idx k hk) hn h
theorem ldA_f {b n : Nat} {cs : Array Value} {e : TypeId} {fz : Nat × Nat} {K : List Value → Prop} (hS : Sf M w0 w F L) (k : Nat) (hk : L[k]? = some (b, .cells cs e fz)) (hn : n = cs.toList.length) (h : K cs.toList) : LdN w ⟨b, 0, none⟩ n K :=
  ldA_s hS.st _ (hS.idx k hk) hn h
theorem set_right (F L : LM) (k : Nat) (x : Nat × Obj) : (F ++ L).set (F.length + k) x = F ++ L.set k x := by
  rw [List.set_append_right _ _ (by omega)]
  simp
theorem Sf.set (hS : Sf M w0 w F L) (k : Nat) {b : Nat} {o : Obj} (hk : L[k]? = some (b, o)) (o' : Obj) (hw : w'.heap.size = w.heap.size ∧ w'.os = w.os ∧ w'.tape = w.tape ∧ w'.output = w.output)
    (h1 : w'.heap[b]? = some o') (h2 : ∀ j, j ≠ b → w'.heap[j]? = w.heap[j]?) : Sf M w0 w' F (L.set k (b, o')) :=
  ⟨by rw [← set_right]; exact hS.st.put _ (hS.idx k hk) o' hw h1 h2⟩
theorem stN_f {b off : Nat} {cs : Array Value} {e : TypeId} {lo hi : Nat} {v : Value} {K : World → Prop} (hS : Sf M w0 w F L) (k : Nat) (hk : L[k]? = some (b, .cells cs e (lo, hi))) (hlt : off < cs.toList.length) (hfz : (decide (lo ≤ off) && decide (off < hi)) = false) (ho : one v = true)
    (h : setK cs.toList off v fun l => setLK L k (b, .cells l.toArray e (lo, hi)) fun L' => ∀ w', Sf M w0 w' F L' → K w') : StN P w ⟨b, off, none⟩ [v] K := by
  have h1 := setLK_ok (setK_ok h)
  refine stN_s hS.st _ (hS.idx k hk) hlt hfz ho (setK_i ?_)
  have hset : ∀ {L : LM} {k : Nat} {x : Nat × Obj} {K : LM → Prop}, K (L.set k x) → setLK L k x K := by
    intro L
    induction L with
    | nil => intro k x K h; simpa [setLK] using h
    | cons y L ih =>
      intro k x K h
      cases k with
      | zero => simpa [setLK] using h
      | succ k => simp only [setLK]; exact ih (by simpa using h)
  refine hset ?_
  intro w' hS'
  rw [set_right] at hS'
  exact h1 w' ⟨hS'⟩
theorem stM_f {b off : Nat} {cs : Array Value} {e : TypeId} {vs : List Value} {K : World → Prop} (hS : Sf M w0 w F L) (k : Nat) (hk : L[k]? = some (b, .cells cs e (0, 0))) (hlt : off + vs.length ≤ cs.toList.length) (ho : allOne vs = true)
    (h : setsK cs.toList off vs fun l => setLK L k (b, .cells l.toArray e (0, 0)) fun L' => ∀ w', Sf M w0 w' F L' → K w') : StN P w ⟨b, off, none⟩ vs K := by
  have h1 := setLK_ok (setsK_ok h)
  refine stM_s hS.st _ (hS.idx k hk) hlt ho (setsK_i ?_)
  have hset : ∀ {L : LM} {k : Nat} {x : Nat × Obj} {K : LM → Prop}, K (L.set k x) → setLK L k x K := by
    intro L
    induction L with
    | nil => intro k x K h; simpa [setLK] using h
    | cons y L ih =>
      intro k x K h
      cases k with
      | zero => simpa [setLK] using h
      | succ k => simp only [setLK]; exact ih (by simpa using h)
  refine hset ?_
  intro w' hS'
  rw [set_right] at hS'
  exact h1 w' ⟨hS'⟩

theorem drawf {T : Tab} (hT : TabOk P T) {r : Option Nat} {id : Nat} {ops : Array Oper} {Q : Post} {fr : Fr} {ds : List Deferred} (hm : P.follows .mixedOrders = true) (hn : noDS ops = true) (hA : apartD ops = true) (hS : Sf M w0 w F L) (hf : Fs.Sublist F) (hs : Ls.Sublist L)
    (h : ∀ w', Sf M w0 w' F L → XD T P (fun w'' => Sf M w0 w'' Fs Ls) ops.toList (fun fr w => Q .normal fr ds w) ops.toList.length (List.replicate ops.toList.length false) fr w') : Wp P r (.region id ops true) Q fr ds w := by
  refine .of fun n => ?_
  have hS' : Sf M w0 { w with drawn := w.drawn + 1 } F L := hS.drew _
  have h1 := XD_ok (ds := ds) (Q := fun e a w => liftQ Q e a w ∧ ∀ c, e ≠ .panic c) hT r n (by simpa using hn) (by simpa using hA) (by rintro c a w ⟨_, hp⟩; exact hp c rfl)
    (K := fun fr w => Q .normal fr ds w) (fun fr w hk => ⟨⟨fr, ds, rfl, hk⟩, by intro c e; cases e⟩) ops.toList.length (fun w'' => Sf M w0 w'' Fs Ls) (List.replicate ops.toList.length false) fr { w with drawn := w.drawn + 1 } (by simp) (by intro m o hm; simp [Array.getD] at hm) (.inl (hS'.subs hf hs)) (h _ hS')
  have h2 := AnyS.any _ _ _ _ _ h1
  have h3 := wpIn_region_any (id := id) (ops := ops) hm (by simpa using h2)
  exact wpIn_mono h3 fun e a w hq => hq.1

theorem app_f {T : Tab} (hT : TabOk P T) {e sz t ty bytes : Nat} (hE : ElemOk P T t e sz bytes) {v : Value} {n : Nat} {cs : List Value} {Lv : LM} (hS : Sf M w0 w (Lv ++ F) L) (hv : Sl e sz v n cs Lv)
    {A : Option Addr} {m c : Nat} {ys : List Value} (hr : Rd w A ys) (hl : ys.length = m * sz) (h1 : ∀ y ∈ ys, one y = true) (hb : (n + m) * bytes ≤ 140737488355328) (h63 : n + m ≤ 4611686018427387904) {K : Value → World → Prop}
    (h : ∀ v' Lv' w', Sl e sz v' (n + m) (cs ++ ys) Lv' → Sf M w0 w' (Lv' ++ F) L → K v' w') : SemN P (Builtin.append_ #[t, t] ty #[v, .slice A m c]) w K :=
  app_sl hT hE (L := F ++ L) (by simpa using hS.st) hv hr hl h1 hb h63 fun v' Lv' w' hv' hS' => h v' Lv' w' hv' ⟨by simpa using hS'⟩
theorem appNew_f {T : Tab} (hT : TabOk P T) {e sz t ty bytes : Nat} (hE : ElemOk P T t e sz bytes) {n cap : Nat} {cs : List Value} {B : Option Addr} (hS : Sf M w0 w F L) (hB : Rd w B cs) (hcs : cs.length = n * sz) (hn : B = none → n = 0 ∧ cap = 0)
    {A : Option Addr} {m c : Nat} {ys : List Value} (hr : Rd w A ys) (hl : ys.length = m * sz) (hm : 0 < m) (hcap : cap < n + m) (hb : (n + m) * bytes ≤ 140737488355328) (h63 : n + m ≤ 4611686018427387904) {K : Value → World → Prop}
    (h : ∀ v' Lv' w', Sl e sz v' (n + m) (cs ++ ys) Lv' → Sf M w0 w' (Lv' ++ F) L → K v' w') : SemN P (Builtin.append_ #[t, t] ty #[.slice B n cap, .slice A m c]) w K :=
  app_new hT hE hS.st hB hcs hn hr hl hm hcap hb h63 fun v' Lv' w' hv' hS' => h v' Lv' w' hv' ⟨by simpa using hS'⟩
/-- a block that is told, as what is read -/
theorem Sf.rd (hS : Sf M w0 w F L) (k : Nat) {b : Nat} {cs : Array Value} {e : TypeId} {fz : Nat × Nat} (hk : L[k]? = some (b, .cells cs e fz)) : Rd w (some ⟨b, 0, none⟩) cs.toList :=
  .inr ⟨b, 0, rfl, fun j v hj => by rw [Nat.zero_add]; exact hS.cell k hk hj⟩
theorem Sl.rdF {e sz : Nat} {A : Option Addr} {c n : Nat} {cs : List Value} {Lv : LM} (h : Sl e sz (.slice A n c) n cs Lv) (hS : Sf M w0 w (Lv ++ F) L) : Rd w A cs :=
  h.rd hS.st (fun x hx => List.mem_append_left _ (List.mem_append_left _ hx))
theorem Sl.rdS {e sz : Nat} {A : Option Addr} {c n : Nat} {cs : List Value} {Lv : LM} (h : Sl e sz (.slice A n c) n cs Lv) (hS : St M w0 w Lv) : Rd w A cs :=
  h.rd hS (fun x hx => hx)
theorem Sl.open {e sz : Nat} {v : Value} {n : Nat} {cs : List Value} {Lv : LM} (h : Sl e sz v n cs Lv) : ∃ A c, v = .slice A n c ∧ Sl e sz (.slice A n c) n cs Lv := by
  obtain ⟨A, c, rfl, _⟩ := h.shape
  exact ⟨A, c, rfl, h⟩
end

theorem bar_f {F : (World → Prop) → Prop} {M : List Nat} {w0 w : World} {Fs Ls : LM} (h : Sf M w0 w Fs Ls) (k : F (fun w'' => Sf M w0 w'' Fs Ls)) : BarS F w := ⟨⟨_, h, k⟩⟩
end Go.RV
