/- Package authmap: outside, as an iterator. -/
import Derived.Laws.EntriesVeiled
import Derived.Test.YtcmjbjlliehdiaaDoorGAuthmapRunsSQ8
namespace Go.Proofs.YtcmjbjlliehdiaaDoor
open Go.RowKit PA
attribute [local go_sem] Oper.semAt_some
theorem awalk {W : World} (R : List (Nat × Int) → Assn) (a b : Int) (lp ba bb yb wb N : Nat) (hY : ∀ m, Takes Fence.wide m Tryd.prog W lp encB noB N R) :
    ∀ (l : Nat) (A : Assn) (n : Int), inT l n → ∀ (pre : List (Nat × Int)) (w : World), pre.length + (outL a b l n).length ≤ N → Sat W w (sep (R pre) (sep (wenv a b lp ba bb yb wb) A)) →
      Calls Tryd.prog 87 #[bkv (l, n), .pointer (some ⟨ba, 0, none⟩), .pointer (some ⟨bb, 0, none⟩), .pointer (some ⟨yb, 0, none⟩), .pointer (some ⟨wb, 0, none⟩)] w fun e w' => e = .returned (.bool true) ∧ Sat W w' (sep (R (pre ++ outL a b l n)) (sep (wenv a b lp ba bb yb wb) A)) := by
  intro l
  induction l with
  | zero =>
    intro A n hT pre w hlen h0
    by_cases ho : bLast (0, n) < a ∨ b < bFirst (0, n)
    · rw [outL_out ho] at hlen ⊢
      have hl : pre.length < N := by simp at hlen; omega
      by_cases h1 : bLast (0, n) < a
      · exact callsIn_wide.1 (awalk_out1 R a b lp ba bb yb wb N hY 0 n hT pre w hl h1 h0)
      · exact callsIn_wide.1 (awalk_out2 R a b lp ba bb yb wb N hY 0 n hT pre w hl h1 (ho.resolve_left h1) h0)
    · have hi := bzero ho
      rw [outL_in ho hi]
      exact callsIn_wide.1 (awalk_in R a b lp ba bb yb wb N 0 n hT pre w (fun h => ho (.inl h)) (fun h => ho (.inr h)) hi.1 hi.2 h0)
  | succ l ih =>
    intro A n hT pre w hlen h0
    by_cases ho : bLast (l + 1, n) < a ∨ b < bFirst (l + 1, n)
    · rw [outL_out ho] at hlen ⊢
      have hl : pre.length < N := by simp at hlen; omega
      by_cases h1 : bLast (l + 1, n) < a
      · exact callsIn_wide.1 (awalk_out1 R a b lp ba bb yb wb N hY (l + 1) n hT pre w hl h1 h0)
      · exact callsIn_wide.1 (awalk_out2 R a b lp ba bb yb wb N hY (l + 1) n hT pre w hl h1 (ho.resolve_left h1) h0)
    · by_cases hi : a ≤ bFirst (l + 1, n) ∧ bLast (l + 1, n) ≤ b
      · rw [outL_in ho hi]
        exact callsIn_wide.1 (awalk_in R a b lp ba bb yb wb N (l + 1) n hT pre w (fun h => ho (.inl h)) (fun h => ho (.inr h)) hi.1 hi.2 h0)
      · by_cases hi1 : a ≤ bFirst (l + 1, n)
        · exact callsIn_wide.1 (awalk_half2 R a b lp ba bb yb wb N l ih n hT pre w hlen ho hi hi1 h0)
        · exact callsIn_wide.1 (awalk_half1 R a b lp ba bb yb wb N l ih n hT pre w hlen ho hi hi1 h0)
theorem outL_top (a b : Int) : (outL a b 12 0).length ≤ 4096 := outL_length a b 12 0
set_option maxRecDepth 100000 in
set_option maxHeartbeats 4000000 in
theorem outside1_gives {W : World} {A : Assn} (hw : WholeOK W) (n : Nat) (a b : Int) (ba bb : Nat) :
    Gives Fence.wide n Tryd.prog W 86 #[.pointer (some ⟨ba, 0, none⟩), .pointer (some ⟨bb, 0, none⟩)] encB noB 4096 (fun xs => xs = outL a b 12 0)
      (sep (blk ba (.cells #[.int .i64 a] 3 (0, 0))) (sep (blk bb (.cells #[.int .i64 b] 3 (0, 0))) A)) A := by
  intro lp R w hY h0
  have hY' : ∀ m, Takes Fence.wide m Tryd.prog W lp encB noB 4096 R := fun m pre x w B h1 h2 => yieldAt_any (hY pre x w B h1 h2)
  obtain ⟨y, hy⟩ : ∃ y, y = w.heap.size := ⟨_, rfl⟩
  obtain ⟨w1, hw1⟩ : ∃ w1, w1 = ((w.alloc (.cells #[.func (.yield lp) #[] #[]] 150)).alloc (.cells #[.func (.func 87) #[] #[.pointer (some ⟨ba, 0, none⟩), .pointer (some ⟨bb, 0, none⟩), .pointer (some ⟨y, 0, none⟩), .pointer (some ⟨y + 1, 0, none⟩)]] 150)) := ⟨_, rfl⟩
  have h1 : Sat W w1 (sep (R []) (sep (wenv a b lp ba bb y (y + 1)) A)) := by
    have h2 := (h0.alloc (.cells #[.func (.yield lp) #[] #[]] 150)).alloc (.cells #[.func (.func 87) #[] #[.pointer (some ⟨ba, 0, none⟩), .pointer (some ⟨bb, 0, none⟩), .pointer (some ⟨y, 0, none⟩), .pointer (some ⟨y + 1, 0, none⟩)]] 150)
    rw [World.size_alloc, ← hy, ← hw1] at h2
    unfold wenv
    simpa only [sep_comm, sep_lcomm, sep_assoc] using h2
  have hwk := awalk R a b lp ba bb y (y + 1) 4096 hY' 12 A 0 inT_top [] w1 (by have := outL_top a b; simpa using this) h1
  obtain ⟨e0, e1, e2, e3⟩ := wenv_at (B := emp) (C := R []) (by rw [emp_sep]; exact h1)
  obtain ⟨q0, q1⟩ := hw.now h1
  have HWK := Lib.hid hwk
  have HY := Lib.hid (And.intro hy hw1)
  have hmf : ∀ (fn : Fn) (first cap : Array Value) (w : World), (Instr.makeFunc fn first cap).run Tryd.prog w = .ok (.func fn first cap) w := fun _ _ _ _ => rfl
  clear hY hY' h0 h1 hwk hy hw1 hw
  refine callsIn_of_wp Tryd.func86 rfl trivial ?_ rfl
  simp only [Tryd.ntmps86, List.size_toArray, List.length_cons, List.length_nil, Nat.reduceAdd, Nat.reduceSub, Array.replicate_succ, Array.replicate_zero, List.push_toArray, List.append_toArray, List.nil_append, List.cons_append]
  gi_upto_region 3 with (fail)
  rw [← HY.out.1, ← HY.out.2]
  have HWK2 : Hid (Calls Tryd.prog 87 #[.agg #[.int .i64 12, .int .i64 0], .pointer (some ⟨ba, 0, none⟩), .pointer (some ⟨bb, 0, none⟩), .pointer (some ⟨y, 0, none⟩), .pointer (some ⟨y + 1, 0, none⟩)] w1 fun e w' => e = .returned (.bool true) ∧ Sat W w' (sep (R ([] ++ outL a b 12 0)) (sep (wenv a b lp ba bb y (y + 1)) A))) := HWK
  clear HWK
  gi_wp2_with fail
  refine ⟨trivial, fun hd => (by cases hd), (callsIn_wide.2 HWK2.out).mono ?_⟩
  rintro e w2 ⟨rfl, h2⟩
  clear HWK2 e0 e1 e2 e3 q0 q1
  gi_wp2_with fail
  refine bodyPost_end (results_none rfl _ _ _) rfl ?_
  refine ⟨⟨_, rfl⟩, _, rfl, ?_⟩
  rw [List.nil_append] at h2
  have h3 := h2.p1
  unfold wenv at h3
  simp only [sep_assoc] at h3
  have h4 := h3.drop.drop.drop.drop
  simpa only [sep_comm, sep_lcomm, sep_assoc] using h4
theorem outside_spec {W w : World} {A : Assn} (a b : Int) (h : Sat W w A) :
    Calls Tryd.prog 54 #[.int .i64 a, .int .i64 b] w fun e w' => ∃ ba bb, e = .returned (.func (.func 86) #[] #[.pointer (some ⟨ba, 0, none⟩), .pointer (some ⟨bb, 0, none⟩)]) ∧
      Sat W w' (sep (blk ba (.cells #[.int .i64 a] 3 (0, 0))) (sep (blk bb (.cells #[.int .i64 b] 3 (0, 0))) A)) := by
  have hmf : ∀ (fn : Fn) (first cap : Array Value) (w : World), (Instr.makeFunc fn first cap).run Tryd.prog w = .ok (.func fn first cap) w := fun _ _ _ _ => rfl
  have h1 := (h.alloc (.cells #[.int .i64 a] 3)).alloc (.cells #[.int .i64 b] 3)
  rw [World.size_alloc] at h1
  have H1 := Lib.hid h1
  clear h h1
  go_enter Tryd.func54, Tryd.ntmps54
  go_wp2_with fail
  go_ret
  exact ⟨_, _, rfl, by have := H1.out; simpa only [sep_comm, sep_lcomm, sep_assoc] using this⟩
end Go.Proofs.YtcmjbjlliehdiaaDoor
