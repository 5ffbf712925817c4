/- The groups of Reg6, as threads beside each other: each an effect and the operations behind it that only compute. Plain Lean, no program in sight. -/
import Derived.Test.YtodipneapffjdaaGreatDoorGActsSort16
namespace PA
open Go Go.RowKit
section
variable {P : Program} {ops : Array Oper} {Q : Exit → Act → World → Prop} {S : World → Prop} {W : World}
def tailA {Y : Type} (Pre : Assn) (ok : Y → Value → Prop) (Post : Y → Assn) (F : Value → List Value) : List Value → Assn
  | [] => Pre
  | v :: us => ex fun y : Y => sep (fact (ok y v ∧ us = (F v).take us.length)) (Post y)
/-- The operations js compute us, one behind the other, in every world. -/
def purS (P : Program) (ops : Array Oper) : Act → List Nat → List Value → Prop
  | _, [], [] => True
  | a, j :: js, u :: us => (∃ o, ops[j]? = some o ∧ (∀ w, (execOp a.eval o).run P w = .ok (.value u) w)) ∧ purS P ops (a.put (dstOf ops j) u) js us
  | _, _, _ => False
def plainB (ops : Array Oper) (j : Nat) : Bool := match ops[j]? with | some o => o.guard.isNone && (match o.op with | .select .. => false | _ => true) | none => false

theorem purS_len : ∀ {js : List Nat} {us : List Value} {a : Act}, purS P ops a js us → us.length = js.length
  | [], [], _, _ => rfl
  | [], _ :: _, _, h => h.elim
  | _ :: _, [], _, h => h.elim
  | j :: js, u :: us, a, h => by rw [List.length_cons, List.length_cons, purS_len h.2]
theorem wpT_of_purS {K : Act → World → Prop} : ∀ (js : List Nat) (us : List Value) (a : Act) (w : World), (∀ j ∈ js, plainB ops j = true) → purS P ops a js us → K (puts ops (js.zip us) a) w → wpT P ops K js a w
  | [], us, a, w, _, h, hk => by
    cases us with
    | nil => exact hk
    | cons => exact h.elim
  | j :: js, [], _, _, _, h, _ => h.elim
  | j :: js, u :: us, a, w, hp, h, hk => by
    obtain ⟨⟨o, ho, hr⟩, h2⟩ := h
    have hpj := hp j (by simp)
    unfold plainB at hpj
    rw [ho] at hpj
    simp only [Bool.and_eq_true] at hpj
    refine ⟨o, ho, u, fun w' => .inl ⟨?_, hr w'⟩, ?_⟩
    · unfold Region.wanted
      cases hg : o.guard with
      | none => rfl
      | some x => rw [hg] at hpj; exact absurd hpj.1 (by simp)
    · have hd : dstOf ops j = o.dst := by unfold dstOf; rw [ho]; rfl
      rw [← hd]
      exact wpT_of_purS js us _ w (fun k hk => hp k (by simp [hk])) h2 hk
theorem puts_swap' {i : Nat} (v : Value) : ∀ (l : List (Nat × Value)), (∀ x ∈ l, apartB ops x.1 i = true ∨ apartB ops i x.1 = true) → ∀ a : Act, puts ops l (a.put (dstOf ops i) v) = (puts ops l a).put (dstOf ops i) v
  | [], _, _ => rfl
  | x :: l, h, a => by
    show puts ops l ((a.put (dstOf ops i) v).put (dstOf ops x.1) x.2) = (puts ops l (a.put (dstOf ops x.1) x.2)).put (dstOf ops i) v
    have hd : ∀ d, dstOf ops i = some d → dstOf ops x.1 ≠ some d := by
      rcases h x (by simp) with h1 | h1
      · exact (apartB_dst h1).2
      · exact (apartB_dst h1).1
    rw [Act.put_comm a v x.2 hd, puts_swap' v l (fun y hy => h y (by simp [hy]))]
theorem purS_put {js : List Nat} {k : Nat} {v : Value} : ∀ {us : List Value} {a : Act}, (∀ j ∈ js, plainB ops j = true) → (∀ j ∈ js, apartB ops k j = true ∨ apartB ops j k = true) → purS P ops a js us → purS P ops (a.put (dstOf ops k) v) js us := by
  induction js with
  | nil => intro us a _ _ h; cases us with
    | nil => trivial
    | cons => exact h.elim
  | cons j js ih =>
    intro us a hp hap h
    cases us with
    | nil => exact h.elim
    | cons u us =>
      obtain ⟨⟨o, ho, hr⟩, h2⟩ := h
      have hpj := hp j (by simp)
      unfold plainB at hpj
      rw [ho] at hpj
      simp only [Bool.and_eq_true] at hpj
      have hsel : ∀ cs b, o.op ≠ .select cs b := fun cs b hs => by rw [hs] at hpj; exact absurd hpj.2 (by simp)
      have hlook : ∀ d, dstOf ops k = some d → d ∉ o.looksAt ops := fun d hd => by
        unfold dstOf at hd
        cases hk : ops[k]? with
        | none => rw [hk] at hd; cases hd
        | some z =>
          rw [hk] at hd
          rcases hap j (by simp) with h1 | h1
          · unfold apartB at h1
            rw [hk, ho] at h1
            exact (Oper.apart_spec h1).1 d hd
          · unfold apartB at h1
            rw [hk, ho] at h1
            exact (Oper.apart_spec h1).2.2 d hd
      refine ⟨⟨o, ho, fun w => ?_⟩, ?_⟩
      · rw [execOp_put o hsel a _ v hlook]; exact hr w
      · have := ih (fun i hi => hp i (by simp [hi])) (fun i hi => hap i (by simp [hi])) h2
        have hd : ∀ d, dstOf ops k = some d → dstOf ops j ≠ some d := by
          rcases hap j (by simp) with h1 | h1
          · exact (apartB_dst h1).1
          · exact (apartB_dst h1).2
        rw [Act.put_comm a v u hd]
        exact this
theorem purS_puts {js : List Nat} {us : List Value} : ∀ (l : List (Nat × Value)), (∀ j ∈ js, plainB ops j = true) → (∀ x ∈ l, ∀ j ∈ js, apartB ops x.1 j = true ∨ apartB ops j x.1 = true) → ∀ {a : Act}, purS P ops a js us → purS P ops (puts ops l a) js us
  | [], _, _, _, h => h
  | x :: l, hp, hap, a, h => purS_puts l hp (fun y hy => hap y (by simp [hy])) (purS_put hp (hap x (by simp)) h)
def nums (ids : List (Nat × List Nat)) : List Nat := ids.flatMap fun x => x.1 :: x.2
structure ThG where
  ids : List (Nat × List Nat)
  A : List Value → Assn
structure StG where
  dn : List (Nat × Value)
  td : List (Nat × List Nat)
  A : List Value → Assn
def StG.now (s : StG) : Assn := s.A (s.dn.map (·.2))
def stG (sts : List StG) (B : Assn) : Assn := sts.foldl (fun B s => sep s.now B) B
theorem stG_cons (s : StG) (sts : List StG) (B : Assn) : stG (s :: sts) B = stG sts (sep s.now B) := rfl
theorem stG_append (s t : List StG) (B : Assn) : stG (s ++ t) B = stG t (stG s B) := by simp [stG]
theorem stG_out (X : Assn) : ∀ (sts : List StG) (B : Assn), stG sts (sep X B) = sep X (stG sts B)
  | [], _ => rfl
  | s :: sts, B => by rw [stG_cons, stG_cons, sep_lcomm, stG_out X sts]
/-- The steps of a thread, one behind the other. -/
def goodG (P : Program) (ops : Array Oper) (W : World) (a0 : Act) (A : List Value → Assn) : List (Nat × Value) → List (Nat × List Nat) → Prop
  | _, [] => True
  | dn, x :: td => (∃ o, ops[x.1]? = some o ∧ (∀ cs b, o.op ≠ .select cs b) ∧ DoesS P ops W o (puts ops dn a0) (A (dn.map (·.2))) (fun v => A (dn.map (·.2) ++ [v]))) ∧ (∀ y ∈ td, ((Region.before ops).getD y.1 0).testBit x.1 = true) ∧ (∀ j ∈ x.2, plainB ops j = true) ∧
      (∀ v w B, Sat W w (sep (A (dn.map (·.2) ++ [v])) B) → ∃ us, purS P ops (puts ops (dn ++ [(x.1, v)]) a0) x.2 us ∧ Sat W w (sep (A (dn.map (·.2) ++ v :: us)) B)) ∧
      ∀ v us, us.length = x.2.length → goodG P ops W a0 A (dn ++ (x.1, v) :: x.2.zip us) td
/-- What is to be shown behind all threads. -/
def finG (ops : Array Oper) (W : World) (a0 : Act) (K : Act → World → Prop) : List ThG → List (Nat × Value) → Assn → Prop
  | [], D, B => ∀ w, Sat W w B → K (puts ops D a0) w
  | t :: ts, D, B => ∀ dn : List (Nat × Value), dn.map (·.1) = nums t.ids → finG ops W a0 K ts (D ++ dn) (sep (t.A (dn.map (·.2))) B)
def LikeG (ts : List ThG) (sts : List StG) : Prop := sts.map (fun s => (s.dn.map (·.1) ++ nums s.td, s.A)) = ts.map fun t => (nums t.ids, t.A)
theorem nums_nil {l : List (Nat × List Nat)} (h : l = []) : nums l = [] := by rw [h]; rfl
theorem finG_end {a0 : Act} {K : Act → World → Prop} : ∀ (sts : List StG) (ts : List ThG) (D : List (Nat × Value)) (B : Assn), LikeG ts sts → sts.flatMap (·.td) = [] → finG ops W a0 K ts D B → ∀ w, Sat W w (stG sts B) → K (puts ops (D ++ sts.flatMap (·.dn)) a0) w
  | [], ts, D, B, hL, _, hf, w, hS => by
    have : ts = [] := by unfold LikeG at hL; simp at hL; exact hL
    subst this
    simpa using hf w hS
  | s :: sts, ts, D, B, hL, ht, hf, w, hS => by
    cases ts with
    | nil => unfold LikeG at hL; simp at hL
    | cons t ts =>
      unfold LikeG at hL
      simp only [List.map_cons, List.cons.injEq, Prod.mk.injEq] at hL
      obtain ⟨⟨h1, h2⟩, h3⟩ := hL
      simp only [List.flatMap_cons, List.append_eq_nil_iff] at ht
      rw [nums_nil ht.1, List.append_nil] at h1
      have := hf s.dn h1
      rw [← h2] at this
      have h4 := finG_end sts ts (D ++ s.dn) _ h3 ht.2 this w (by rw [stG_cons] at hS; exact hS)
      rw [List.flatMap_cons, ← List.append_assoc]
      exact h4
def StG.all (s : StG) : List Nat := s.dn.map (·.1) ++ nums s.td
theorem pairsTG_ok : ∀ (ts : List ThG), pairsTB ops (ts.map (fun t => nums t.ids)) = true → (ts.map fun t => (⟨[], t.ids, t.A⟩ : StG)).Pairwise fun s t => apartT ops s.all t.all
  | [], _ => .nil
  | t :: ts, h => by
    simp only [List.map_cons, pairsTB, Bool.and_eq_true, List.all_eq_true] at h
    refine List.pairwise_cons.2 ⟨fun s hs => ?_, pairsTG_ok ts h.2⟩
    obtain ⟨u, hu, rfl⟩ := List.mem_map.1 hs
    have := h.1 (nums u.ids) (List.mem_map.2 ⟨u, hu, rfl⟩)
    simp only [apartTB, List.all_eq_true] at this
    intro i hi j hj
    exact this i (by simpa [StG.all] using hi) j (by simpa [StG.all] using hj)
/-- The thread of one effect i and of the operations js behind it. -/
theorem goodG_tail {Y : Type} {Pre : Assn} {ok : Y → Value → Prop} {Post : Y → Assn} {F : Value → List Value} {a0 : Act} {i : Nat} {js : List Nat} {o : Oper} (ho : ops[i]? = some o) (hs : ∀ cs b, o.op ≠ .select cs b)
    (hd : DoesS P ops W o a0 Pre (fun v => ex fun y : Y => sep (fact (ok y v)) (Post y))) (hpl : js.all (plainB ops) = true) (hF : ∀ y v, ok y v → purS P ops (a0.put (dstOf ops i) v) js (F v)) :
    goodG P ops W a0 (tailA Pre ok Post F) [] [(i, js)] := by
  refine ⟨⟨o, ho, hs, ?_⟩, fun y hy => (by cases hy), fun j hj => List.all_eq_true.1 hpl j hj, fun v w B h => ?_, fun _ _ _ => trivial⟩
  · refine ⟨hd.1, fun w A hS => ?_⟩
    have conv : ∀ (v : Value) (w' : World), Sat W w' (sep (ex fun y : Y => sep (fact (ok y v)) (Post y)) A) → Sat W w' (sep (tailA Pre ok Post F ([] ++ [v])) A) := fun v w' h => by
      rw [List.nil_append, tailA, ex_sep, Sat.ex]
      rw [ex_sep, Sat.ex] at h
      obtain ⟨y, h⟩ := h
      refine ⟨y, ?_⟩
      rw [sep_assoc] at h ⊢
      obtain ⟨h1, h2⟩ := Sat.fact.1 h
      exact Sat.fact.2 ⟨⟨h1, rfl⟩, h2⟩
    rcases hd.2 w A hS with ⟨v, w', h1, h2⟩ | ⟨f, args, w1, h1, h2⟩
    · exact .inl ⟨v, w', h1, conv v w' h2⟩
    · refine .inr ⟨f, args, w1, h1, h2.mono ?_⟩
      rintro e w' ⟨v, rfl, h3⟩
      exact ⟨v, rfl, conv v w' h3⟩
  · have h' : Sat W w (sep (tailA Pre ok Post F [v]) B) := h
    rw [tailA, ex_sep, Sat.ex] at h'
    obtain ⟨y, h'⟩ := h'
    rw [sep_assoc] at h'
    obtain ⟨⟨hok, -⟩, h2⟩ := Sat.fact.1 h'
    have hp := hF y v hok
    refine ⟨F v, hp, ?_⟩
    show Sat W w (sep (tailA Pre ok Post F (v :: F v)) B)
    rw [tailA, ex_sep, Sat.ex]
    refine ⟨y, ?_⟩
    rw [sep_assoc]
    exact Sat.fact.2 ⟨⟨hok, by rw [List.take_length]⟩, h2⟩
/-- What a finished thread holds. -/
theorem tailA_done {Y : Type} {Pre : Assn} {ok : Y → Value → Prop} {Post : Y → Assn} {F : Value → List Value} {A : Assn} {w : World} {i : Nat} {js : List Nat} {dn : List (Nat × Value)} (hdn : dn.map (·.1) = i :: js) (hl : ∀ v, (F v).length = js.length)
    (h : Sat W w (sep (tailA Pre ok Post F (dn.map (·.2))) A)) : ∃ (v : Value) (y : Y), dn = (i, v) :: js.zip (F v) ∧ ok y v ∧ Sat W w (sep (Post y) A) := by
  cases dn with
  | nil => simp at hdn
  | cons x dn =>
    obtain ⟨k, v⟩ := x
    simp only [List.map_cons, List.cons.injEq] at hdn h
    obtain ⟨rfl, hj⟩ := hdn
    rw [tailA, ex_sep, Sat.ex] at h
    obtain ⟨y, h⟩ := h
    rw [sep_assoc] at h
    obtain ⟨⟨h1, h2⟩, h3⟩ := Sat.fact.1 h
    refine ⟨v, y, ?_, h1, h3⟩
    have hlen : (dn.map (·.2)).length = (F v).length := by rw [hl, ← hj]; simp
    rw [hlen, List.take_length] at h2
    rw [← h2, ← hj]
    congr 1
    clear h2 hlen h h3 hj
    induction dn with
    | nil => rfl
    | cons z dn ih => simp [← ih]
end
end PA
/- Threads of two calls, the second on what the first one yields, and the operations behind it that only compute. Plain Lean, no program in sight. -/
namespace PA
open Go Go.RowKit
section
variable {P : Program} {ops : Array Oper} {Q : Exit → Act → World → Prop} {S : World → Prop} {W : World}
theorem doesCall {o : Oper} {a : Act} {Pre : Assn} {Post : Value → Assn} (hg : Region.wanted o (yielded ops a.tmps) = true) (f : FuncId) (args : Array Value) (hr : ∀ w, (execOp a.eval o).run P w = .ok (.enter f args) w)
    (hc : ∀ (w : World) (A : Assn), Sat W w (sep Pre A) → Calls P f args w fun e w' => ∃ v, e = .returned v ∧ Sat W w' (sep (Post v) A)) : DoesS P ops W o a Pre Post :=
  ⟨hg, fun w A h => .inr ⟨f, args, w, hr w, hc w A h⟩⟩
theorem doesAlloc {o : Oper} {a : Act} {ob : Obj} (hg : Region.wanted o (yielded ops a.tmps) = true) (hr : ∀ w, (execOp a.eval o).run P w = .ok (.value (.pointer (some ⟨w.heap.size, 0, none⟩))) (w.alloc ob)) :
    DoesS P ops W o a emp (fun v => ex fun g : Nat => sep (fact (v = .pointer (some ⟨g, 0, none⟩))) (blk g ob)) :=
  ⟨hg, fun w A h => .inl ⟨_, _, hr w, by
    rw [emp_sep] at h
    rw [ex_sep, Sat.ex]
    exact ⟨w.heap.size, by rw [sep_assoc]; exact Sat.fact.2 ⟨rfl, h.alloc ob⟩⟩⟩⟩
def twoA (Pre Mid Post : Assn) (v1 v2 : Value) (us0 : List Value) : List Value → Assn
  | [] => Pre
  | [u] => sep (fact (u = v1)) Mid
  | u :: x :: r => sep (fact (u = v1 ∧ x = v2 ∧ r = us0.take r.length)) Post
theorem goodG_two {Pre Mid Post : Assn} {v1 v2 : Value} {us0 : List Value} {a0 : Act} {i j : Nat} {js : List Nat} {oi oj : Oper} {di : Option Tmp} (hdi : dstOf ops i = di) (hoi : ops[i]? = some oi) (hsi : ∀ cs b, oi.op ≠ .select cs b) (hoj : ops[j]? = some oj) (hsj : ∀ cs b, oj.op ≠ .select cs b)
    (hb : ((Region.before ops).getD j 0).testBit i = true) (h1 : DoesS P ops W oi a0 Pre (fun v => sep (fact (v = v1)) Mid)) (h2 : DoesS P ops W oj (a0.put di v1) Mid (fun v => sep (fact (v = v2)) Post))
    (hw2 : ∀ v, Region.wanted oj (yielded ops (a0.put di v).tmps) = true) (hpl : js.all (plainB ops) = true) (hF : purS P ops ((a0.put di v1).put (dstOf ops j) v2) js us0) :
    goodG P ops W a0 (twoA Pre Mid Post v1 v2 us0) [] [(i, []), (j, js)] := by
  subst hdi
  refine ⟨⟨oi, hoi, hsi, h1⟩, fun y hy => ?_, fun j hj => (by cases hj), fun v w B h => ⟨[], trivial, h⟩, fun v us hus => ?_⟩
  · rw [List.mem_singleton.1 hy]; exact hb
  · have hus0 : us = [] := List.eq_nil_of_length_eq_zero hus
    subst hus0
    refine ⟨⟨oj, hoj, hsj, hw2 v, fun w A hS => ?_⟩, fun y hy => (by cases hy), fun k hk => List.all_eq_true.1 hpl k hk, fun v' w B h => ?_, fun _ _ _ => trivial⟩
    · have hS' : Sat W w (sep (sep (fact (v = v1)) Mid) A) := hS
      rw [sep_assoc] at hS'
      obtain ⟨rfl, hS2⟩ := Sat.fact.1 hS'
      have conv : ∀ (v' : Value) (w' : World), Sat W w' (sep (sep (fact (v' = v2)) Post) A) → Sat W w' (sep (twoA Pre Mid Post v v2 us0 ([v] ++ [v'])) A) := fun v' w' h => by
        show Sat W w' (sep (sep (fact (v = v ∧ v' = v2 ∧ [] = us0.take ([] : List Value).length)) Post) A)
        rw [sep_assoc] at h ⊢
        obtain ⟨h1, h2⟩ := Sat.fact.1 h
        exact Sat.fact.2 ⟨⟨rfl, h1, by simp⟩, h2⟩
      rcases h2.2 w A hS2 with ⟨v', w', h3, h4⟩ | ⟨f, args, w1, h3, h4⟩
      · exact .inl ⟨v', w', h3, conv v' w' h4⟩
      · refine .inr ⟨f, args, w1, h3, h4.mono ?_⟩
        rintro e w' ⟨v', rfl, h5⟩
        exact ⟨v', rfl, conv v' w' h5⟩
    · have h' : Sat W w (sep (sep (fact (v = v1 ∧ v' = v2 ∧ [] = us0.take ([] : List Value).length)) Post) B) := h
      rw [sep_assoc] at h'
      obtain ⟨⟨rfl, rfl, -⟩, h3⟩ := Sat.fact.1 h'
      refine ⟨us0, hF, ?_⟩
      show Sat W w (sep (sep (fact (v = v ∧ v' = v' ∧ us0 = us0.take us0.length)) Post) B)
      rw [sep_assoc]
      exact Sat.fact.2 ⟨⟨rfl, rfl, by rw [List.take_length]⟩, h3⟩
theorem twoA_done {Pre Mid Post : Assn} {v1 v2 : Value} {us0 : List Value} {A : Assn} {w : World} {i j : Nat} {js : List Nat} {dn : List (Nat × Value)} (hdn : dn.map (·.1) = i :: j :: js) (hl : us0.length = js.length)
    (h : Sat W w (sep (twoA Pre Mid Post v1 v2 us0 (dn.map (·.2))) A)) : dn = (i, v1) :: (j, v2) :: js.zip us0 ∧ Sat W w (sep Post A) := by
  match dn, hdn with
  | (i', u) :: (j', x) :: dn, hdn =>
    simp only [List.map_cons, List.cons.injEq] at hdn
    obtain ⟨rfl, rfl, hj⟩ := hdn
    have h' : Sat W w (sep (sep (fact (u = v1 ∧ x = v2 ∧ dn.map (·.2) = us0.take (dn.map (·.2)).length)) Post) A) := h
    rw [sep_assoc] at h'
    obtain ⟨⟨rfl, rfl, h2⟩, h3⟩ := Sat.fact.1 h'
    refine ⟨?_, h3⟩
    have hlen : (dn.map (·.2)).length = us0.length := by rw [hl, ← hj]; simp
    rw [hlen, List.take_length] at h2
    rw [← h2, ← hj]
    congr 1
    congr 1
    clear h2 hlen h h' h3 hj hl
    induction dn with
    | nil => rfl
    | cons z dn ih => simp [← ih]
end
end PA
/- Threads of a call, an operation behind it that only computes, and a load. Plain Lean, no program in sight. -/
namespace PA
open Go Go.RowKit
section
variable {P : Program} {ops : Array Oper} {Q : Exit → Act → World → Prop} {S : World → Prop} {W : World}
/-- What runs without entering anything. -/
theorem doesRun {o : Oper} {a : Act} {Pre : Assn} {v1 : Value} {Post : Assn} (hg : Region.wanted o (yielded ops a.tmps) = true)
    (hr : ∀ (w : World) (A : Assn), Sat W w (sep Pre A) → ∃ w', (execOp a.eval o).run P w = .ok (.value v1) w' ∧ Sat W w' (sep Post A)) : DoesS P ops W o a Pre (fun v => sep (fact (v = v1)) Post) :=
  ⟨hg, fun w A h => .inl (by
    obtain ⟨w', h1, h2⟩ := hr w A h
    exact ⟨v1, w', h1, by rw [sep_assoc]; exact Sat.fact.2 ⟨rfl, h2⟩⟩)⟩
def clA (Pre Mid Post : Assn) (v1 u1 v2 : Value) : List Value → Assn
  | [] => Pre
  | [v] => sep (fact (v = v1)) Mid
  | [v, u] => sep (fact (v = v1 ∧ u = u1)) Mid
  | v :: u :: x :: r => sep (fact (v = v1 ∧ u = u1 ∧ x = v2 ∧ r = [])) Post
theorem goodG_cl {Pre Mid Post : Assn} {v1 u1 v2 : Value} {a0 : Act} {i k j : Nat} {oi oj : Oper} {di : Option Tmp} (hdi : dstOf ops i = di) (hoi : ops[i]? = some oi) (hsi : ∀ cs b, oi.op ≠ .select cs b) (hoj : ops[j]? = some oj) (hsj : ∀ cs b, oj.op ≠ .select cs b)
    (hb : ((Region.before ops).getD j 0).testBit i = true) (h1 : DoesS P ops W oi a0 Pre (fun v => sep (fact (v = v1)) Mid)) (hpl : plainB ops k = true) (hF : purS P ops (a0.put di v1) [k] [u1])
    (h2 : DoesS P ops W oj ((a0.put di v1).put (dstOf ops k) u1) Mid (fun v => sep (fact (v = v2)) Post))
    (hw2 : ∀ v u, Region.wanted oj (yielded ops ((a0.put di v).put (dstOf ops k) u).tmps) = true) :
    goodG P ops W a0 (clA Pre Mid Post v1 u1 v2) [] [(i, [k]), (j, [])] := by
  subst hdi
  refine ⟨⟨oi, hoi, hsi, h1⟩, fun y hy => ?_, fun k' hk' => ?_, fun v w B h => ?_, fun v us hus => ?_⟩
  · rw [List.mem_singleton.1 hy]; exact hb
  · rw [List.mem_singleton.1 hk']; exact hpl
  · have h' : Sat W w (sep (sep (fact (v = v1)) Mid) B) := h
    rw [sep_assoc] at h'
    obtain ⟨rfl, h3⟩ := Sat.fact.1 h'
    refine ⟨[u1], hF, ?_⟩
    show Sat W w (sep (sep (fact (v = v ∧ u1 = u1)) Mid) B)
    rw [sep_assoc]
    exact Sat.fact.2 ⟨⟨rfl, rfl⟩, h3⟩
  · match us, hus with
    | [u], _ =>
      refine ⟨⟨oj, hoj, hsj, hw2 v u, fun w A hS => ?_⟩, fun y hy => (by cases hy), fun k' hk' => (by cases hk'), fun v' w B h => ⟨[], trivial, h⟩, fun _ _ _ => trivial⟩
      have hS' : Sat W w (sep (sep (fact (v = v1 ∧ u = u1)) Mid) A) := hS
      rw [sep_assoc] at hS'
      obtain ⟨⟨rfl, rfl⟩, hS2⟩ := Sat.fact.1 hS'
      have conv : ∀ (v' : Value) (w' : World), Sat W w' (sep (sep (fact (v' = v2)) Post) A) → Sat W w' (sep (clA Pre Mid Post v u v2 ([v, u] ++ [v'])) A) := fun v' w' h => by
        show Sat W w' (sep (sep (fact (v = v ∧ u = u ∧ v' = v2 ∧ ([] : List Value) = [])) Post) A)
        rw [sep_assoc] at h ⊢
        obtain ⟨h1, h2⟩ := Sat.fact.1 h
        exact Sat.fact.2 ⟨⟨rfl, rfl, h1, rfl⟩, h2⟩
      rcases h2.2 w A hS2 with ⟨v', w', h3, h4⟩ | ⟨f, args, w1, h3, h4⟩
      · exact .inl ⟨v', w', h3, conv v' w' h4⟩
      · refine .inr ⟨f, args, w1, h3, h4.mono ?_⟩
        rintro e w' ⟨v', rfl, h5⟩
        exact ⟨v', rfl, conv v' w' h5⟩
theorem clA_done {Pre Mid Post : Assn} {v1 u1 v2 : Value} {A : Assn} {w : World} {i k j : Nat} {dn : List (Nat × Value)} (hdn : dn.map (·.1) = [i, k, j])
    (h : Sat W w (sep (clA Pre Mid Post v1 u1 v2 (dn.map (·.2))) A)) : dn = [(i, v1), (k, u1), (j, v2)] ∧ Sat W w (sep Post A) := by
  match dn, hdn with
  | [(i', u), (k', x), (j', y)], hdn =>
    simp only [List.map_cons, List.map_nil, List.cons.injEq, and_true] at hdn
    obtain ⟨rfl, rfl, rfl⟩ := hdn
    have h' : Sat W w (sep (sep (fact (u = v1 ∧ x = u1 ∧ y = v2 ∧ ([] : List Value) = [])) Post) A) := h
    rw [sep_assoc] at h'
    obtain ⟨⟨rfl, rfl, rfl, -⟩, h3⟩ := Sat.fact.1 h'
    exact ⟨rfl, h3⟩
end
end PA
