/- A callee that turns blocks of its caller's. Conditions: none. -/
import Derived.Test.YtedoalnjdanebaaRvP
set_option linter.unusedVariables false
set_option linter.unusedSimpArgs false
namespace Go.RV
open Go Go.RowKit

def keys (L : LM) : List Nat := L.map (·.1)
section
variable {M : List Nat} {w0 w w' : World} {F L L' Lw : LM}

theorem St.own' (h : St M w0 w L) (hs : Lw.Sublist L) : St (keys Lw) w w Lw :=
  ⟨rfl, rfl, rfl, Nat.le_refl _, fun _ _ _ => rfl, fun b o hb => h.own b o (hs.subset hb), fun b o hb => .inr (List.mem_map.2 ⟨_, hb, rfl⟩), List.Nodup.sublist (hs.map _) h.nod⟩
theorem Sf.ownF (h : Sf M w0 w (Lw ++ F) L) : St (keys Lw) w w Lw :=
  h.st.own' (List.Sublist.trans (List.sublist_append_left Lw F) (List.sublist_append_left (Lw ++ F) L))
theorem Sf.ownL (h : Sf M w0 w F L) (hs : Lw.Sublist L) : St (keys Lw) w w Lw :=
  h.st.own' (hs.trans (List.sublist_append_right F L))
theorem Sf.callW (h : Sf M w0 w (Lw ++ F) L) (h' : St (keys Lw) w w' L') : Sf M w0 w' (L' ++ F) L := by
  refine ⟨?_⟩
  have h1 : St M w0 w (Lw ++ (F ++ L)) := by simpa using h.st
  have h2 := h1.callM h' (Lk := F ++ L) (fun b hb => by
    obtain ⟨⟨b', o⟩, hm, rfl⟩ := List.mem_map.1 hb
    exact ⟨o, List.mem_append_left _ hm⟩) (List.sublist_append_right Lw (F ++ L)) (fun x hx hk => by
    have hn := h1.nod
    rw [List.map_append, List.nodup_append] at hn
    exact hn.2.2 x.1 hk x.1 (List.mem_map.2 ⟨x, hx, rfl⟩) rfl)
  simpa using h2
theorem St.toSf (h : St M w0 w (Lw ++ L)) : Sf M w0 w Lw L := ⟨h⟩
end
theorem Rd.form {A : Option Addr} {cs : List Value} {w : World} (hR : Rd w A cs) (hne : cs ≠ []) : ∃ b off, A = some ⟨b, off, none⟩ := by
  rcases hR with h | ⟨b, off, rfl, _⟩
  · exact absurd h hne
  · exact ⟨b, off, rfl⟩
theorem Rd.at {b off : Nat} {cs : List Value} {w : World} (hR : Rd w (some ⟨b, off, none⟩) cs) : ∀ j v o, cs[j]? = some v → o = off + j → w.cell? ⟨b, o, none⟩ = some v := by
  intro j v o hj ho
  rcases hR with h | ⟨b', off', e, h⟩
  · subst h; simp at hj
  · cases e; rw [ho]; exact h j v hj
theorem Sl.rdM {e sz : Nat} {A : Option Addr} {c n : Nat} {cs : List Value} {Lv F L : LM} {M : List Nat} {w0 w : World} (h : Sl e sz (.slice A n c) n cs Lv) (hS : Sf M w0 w F L) (hs : ∀ x ∈ Lv, x ∈ F) : Rd w A cs :=
  h.rd hS.st (fun x hx => List.mem_append_left _ (hs x hx))
theorem br_t {c : Bool} {A B : Prop} (h : c = true) (k : A) : brK c A B := br_i (fun _ => k) (fun h' => absurd (h.symm.trans h') (by decide))
theorem br_f {c : Bool} {A B : Prop} (h : c = false) (k : B) : brK c A B := br_i (fun h' => absurd (h'.symm.trans h) (by decide)) (fun _ => k)
end Go.RV
