/- Threads of two calls, the second on what the first one yields, and the operations behind it that only compute. Plain Lean, no program in sight. -/
import Derived.Test.YtfapiopnjllnnaaGreatDoorReg7
namespace PA
open Go Go.RowKit
section
variable {P : Program} {ops : Array Oper} {Q : Exit → Act → World → Prop} {S : World → Prop} {W : World}
theorem doesCall {o : Oper} {a : Act} {Pre : Assn} {Post : Value → Assn} (hg : Region.wanted o (yielded ops a.tmps) = true) (f : FuncId) (args : Array Value) (hr : ∀ w, (execOp a.eval o).run P w = .ok (.enter f args) w)
    (hc : ∀ (w : World) (A : Assn), Sat W w (sep Pre A) → Calls P f args w fun e w' => ∃ v, e = .returned v ∧ Sat W w' (sep (Post v) A)) : DoesS P ops W o a Pre Post :=
  ⟨hg, fun w A h => .inr ⟨f, args, w, hr w, hc w A h⟩⟩
theorem doesAlloc {o : Oper} {a : Act} {ob : Obj} (hg : Region.wanted o (yielded ops a.tmps) = true) (hr : ∀ w, (execOp a.eval o).run P w = .ok (.value (.pointer (some ⟨w.heap.size, 0, none⟩))) (w.alloc ob)) :
    DoesS P ops W o a emp (fun v => ex fun g : Nat => sep (fact (v = .pointer (some ⟨g, 0, none⟩))) (blk g ob)) :=
  ⟨hg, fun w A h => .inl ⟨_, _, hr w, by
    rw [emp_sep] at h
    rw [ex_sep, Sat.ex]
    exact ⟨w.heap.size, by rw [sep_assoc]; exact Sat.fact.2 ⟨rfl, h.alloc ob⟩⟩⟩⟩
def twoA (Pre Mid Post : Assn) (v1 v2 : Value) (us0 : List Value) : List Value → Assn
  | [] => Pre
  | [u] => sep (fact (u = v1)) Mid
  | u :: x :: r => sep (fact (u = v1 ∧ x = v2 ∧ r = us0.take r.length)) Post
theorem goodG_two {Pre Mid Post : Assn} {v1 v2 : Value} {us0 : List Value} {a0 : Act} {i j : Nat} {js : List Nat} {oi oj : Oper} {di : Option Tmp} (hdi : dstOf ops i = di) (hoi : ops[i]? = some oi) (hsi : ∀ cs b, oi.op ≠ .select cs b) (hoj : ops[j]? = some oj) (hsj : ∀ cs b, oj.op ≠ .select cs b)
    (hb : ((Region.before ops).getD j 0).testBit i = true) (h1 : DoesS P ops W oi a0 Pre (fun v => sep (fact (v = v1)) Mid)) (h2 : DoesS P ops W oj (a0.put di v1) Mid (fun v => sep (fact (v = v2)) Post))
    (hw2 : ∀ v, Region.wanted oj (yielded ops (a0.put di v).tmps) = true) (hpl : js.all (plainB ops) = true) (hF : purS P ops ((a0.put di v1).put (dstOf ops j) v2) js us0) :
    goodG P ops W a0 (twoA Pre Mid Post v1 v2 us0) [] [(i, []), (j, js)] := by
  subst hdi
  refine ⟨⟨oi, hoi, hsi, h1⟩, fun y hy => ?_, fun j hj => (by cases hj), fun v w B h => ⟨[], trivial, h⟩, fun v us hus => ?_⟩
  · rw [List.mem_singleton.1 hy]; exact hb
  · have hus0 : us = [] := List.eq_nil_of_length_eq_zero hus
    subst hus0
    refine ⟨⟨oj, hoj, hsj, hw2 v, fun w A hS => ?_⟩, fun y hy => (by cases hy), fun k hk => List.all_eq_true.1 hpl k hk, fun v' w B h => ?_, fun _ _ _ => trivial⟩
    · have hS' : Sat W w (sep (sep (fact (v = v1)) Mid) A) := hS
      rw [sep_assoc] at hS'
      obtain ⟨rfl, hS2⟩ := Sat.fact.1 hS'
      have conv : ∀ (v' : Value) (w' : World), Sat W w' (sep (sep (fact (v' = v2)) Post) A) → Sat W w' (sep (twoA Pre Mid Post v v2 us0 ([v] ++ [v'])) A) := fun v' w' h => by
        show Sat W w' (sep (sep (fact (v = v ∧ v' = v2 ∧ [] = us0.take ([] : List Value).length)) Post) A)
        rw [sep_assoc] at h ⊢
        obtain ⟨h1, h2⟩ := Sat.fact.1 h
        exact Sat.fact.2 ⟨⟨rfl, h1, by simp⟩, h2⟩
      rcases h2.2 w A hS2 with ⟨v', w', h3, h4⟩ | ⟨f, args, w1, h3, h4⟩
      · exact .inl ⟨v', w', h3, conv v' w' h4⟩
      · refine .inr ⟨f, args, w1, h3, h4.mono ?_⟩
        rintro e w' ⟨v', rfl, h5⟩
        exact ⟨v', rfl, conv v' w' h5⟩
    · have h' : Sat W w (sep (sep (fact (v = v1 ∧ v' = v2 ∧ [] = us0.take ([] : List Value).length)) Post) B) := h
      rw [sep_assoc] at h'
      obtain ⟨⟨rfl, rfl, -⟩, h3⟩ := Sat.fact.1 h'
      refine ⟨us0, hF, ?_⟩
      show Sat W w (sep (sep (fact (v = v ∧ v' = v' ∧ us0 = us0.take us0.length)) Post) B)
      rw [sep_assoc]
      exact Sat.fact.2 ⟨⟨rfl, rfl, by rw [List.take_length]⟩, h3⟩
theorem twoA_done {Pre Mid Post : Assn} {v1 v2 : Value} {us0 : List Value} {A : Assn} {w : World} {i j : Nat} {js : List Nat} {dn : List (Nat × Value)} (hdn : dn.map (·.1) = i :: j :: js) (hl : us0.length = js.length)
    (h : Sat W w (sep (twoA Pre Mid Post v1 v2 us0 (dn.map (·.2))) A)) : dn = (i, v1) :: (j, v2) :: js.zip us0 ∧ Sat W w (sep Post A) := by
  match dn, hdn with
  | (i', u) :: (j', x) :: dn, hdn =>
    simp only [List.map_cons, List.cons.injEq] at hdn
    obtain ⟨rfl, rfl, hj⟩ := hdn
    have h' : Sat W w (sep (sep (fact (u = v1 ∧ x = v2 ∧ dn.map (·.2) = us0.take (dn.map (·.2)).length)) Post) A) := h
    rw [sep_assoc] at h'
    obtain ⟨⟨rfl, rfl, h2⟩, h3⟩ := Sat.fact.1 h'
    refine ⟨?_, h3⟩
    have hlen : (dn.map (·.2)).length = us0.length := by rw [hl, ← hj]; simp
    rw [hlen, List.take_length] at h2
    rw [← h2, ← hj]
    congr 1
    congr 1
    clear h2 hlen h h' h3 hj hl
    induction dn with
    | nil => rfl
    | cons z dn ih => simp [← ih]
end
end PA
