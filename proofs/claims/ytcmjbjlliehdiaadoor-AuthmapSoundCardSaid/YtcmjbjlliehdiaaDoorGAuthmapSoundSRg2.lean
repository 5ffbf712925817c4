/- A region that leaves its order open, within a round of a range over a function: one walk in one order serves every order. Plain Lean, no program in sight. -/
import Derived.Test.YtcmjbjlliehdiaaDoorGAuthmapSoundSReg
import Derived.OrdersIn
import Derived.TacticsIn
import Derived.RangeFuncCalls
namespace PA
open Go Go.RowKit
section
variable {P : Program} {ops : Array Oper} {Q : Exit → Act → World → Prop} {S : World → Prop}
theorem rowsIn_wide {n : Nat} {row : String} {args : Array Value} {w : World} {R : Value → World → Prop} (h : Rows P row args w R) : RowsIn Fence.wide n P row args w R :=
  fun c cs _ => let ⟨v, w', r, s⟩ := h c cs; ⟨v, w', r, stepsIn_wide.2 s⟩
theorem wpOpIn_round {l n i : Nat} {K : Act → World → Prop} {a : Act} {w : World} (hno : ¬ LetsOut Q) (hnd : ∀ o, ops[i]? = some o → ∀ c, o.op ≠ .defer c) (h : wpOp P ops Q i K a w) : wpOpIn (Fence.wide.inRound l) n P ops Q i K a w := by
  unfold wpOp at h
  unfold wpOpIn
  cases ho : ops[i]? with
  | none => simpa [ho] using h
  | some o =>
    simp only [ho] at h ⊢
    split
    · rename_i hw
      simp only [hw, if_true] at h
      rcases h with h | ⟨-, h⟩
      · refine ⟨fun _ _ => trivial, ?_⟩
        rw [show (Fence.wide.inRound l).round = some l from rfl, Oper.semAt_some l _ _ (hnd o ho)]
        unfold Oper.wp at h
        generalize (execOp a.eval o).run P w = r at *
        cases r with
        | ok x w' =>
          cases x <;> simp only [Oper.upon, Oper.uponIn] at h ⊢
          case value v => exact h
          case skip => exact h
          case defer d => exact h
          case enter f args => exact ⟨fun hd => (by simp [Fence.inRound, Fence.wide] at hd), callsIn_wide.2 h⟩
          case row row args => exact ⟨fun hd => (by simp [Fence.inRound, Fence.wide] at hd), rowsIn_wide h⟩
        | halt x w' => cases x <;> simp only [Oper.upon, Oper.uponIn] at h ⊢; exact h
      · exact absurd h hno
    · rename_i hw
      simp only [hw] at h
      exact ⟨fun _ _ => trivial, h⟩
theorem anyIn_round {l n : Nat} {md : Region.Mode} (hno : ¬ LetsOut Q) (hnd : ∀ (i : Nat) o, ops[i]? = some o → ∀ c, o.op ≠ .defer c) : ∀ (fuel : Nat) (listed : Array Bool) (a : Act) (w : World), wpAny P md ops Q fuel listed a w → wpAnyIn (Fence.wide.inRound l) n P md ops Q fuel listed a w
  | 0, _, _, _, h => h
  | fuel + 1, listed, a, w, h => ⟨h.1, fun i hi => wpOpIn_round hno (hnd i) (wpOp_mono (fun a w h => anyIn_round hno hnd fuel _ a w h) (h.2 i hi))⟩
theorem noPanic_letsOut (h : ¬ LetsOut Q) : ¬ LetsOut (NoPanic Q) := fun ⟨a, w, hq⟩ => h ⟨a, w, hq⟩
def noDef (ops : Array Oper) : Bool := ops.all fun o => match o.op with | .defer .. => false | _ => true
theorem noDef_spec (h : noDef ops = true) : ∀ (i : Nat) o, ops[i]? = some o → ∀ c, o.op ≠ .defer c := by
  intro i o ho c hc
  simp only [noDef, Array.all_eq_true] at h
  obtain ⟨hi, rfl⟩ := Array.getElem?_eq_some_iff.1 ho
  have := h i hi
  rw [hc] at this
  cases this
/-- THE RULE, in a round. -/
theorem wp_region_round {l n id : Nat} {a : Act} {w : World} (hm : P.follows .mixedOrders = true) (S : World → Prop) (L : List (Nat × Kd)) (hok : (canonOK ops (Region.before ops) L && noDef ops) = true) (hno : ¬ LetsOut Q)
    (h : wpC P ops (NoPanic Q) S L a w.drew) : (Code.region id ops true).wpIn (Fence.wide.inRound l) n P Q a w := by
  rw [Bool.and_eq_true] at hok
  obtain ⟨hok, hnd⟩ := hok
  simp only [canonOK, Bool.and_eq_true] at hok
  obtain ⟨⟨⟨⟨⟨⟨⟨h1, h2⟩, h3⟩, h4⟩, h7⟩, h8⟩, h5⟩, h6⟩ := hok
  have hlen : L.length = ops.size := by simpa using h4
  have hall : ∀ i, i < ops.size → i ∈ L.map (·.1) := fun i hi => by
    simp only [List.all_eq_true, List.mem_range] at h5
    simpa using h5 i hi
  have hback : ∀ i, i ∈ L.map (·.1) → i < ops.size := fun i hi => by
    rw [List.all_eq_true] at h8
    simpa using h8 i hi
  have hp := okAll_pair L h1
  refine wpIn_mono (wpIn_region_any hm (anyIn_round (noPanic_letsOut hno) (noDef_spec hnd) ops.size _ a _ ?_)) NoPanic.imp
  refine any_of_C (bf := Region.before ops) (S := S) ?_ ?_ h3 ?_ ops.size L _ hlen ?_ a w.drew h
  · intro j o cs b ho hsel
    simp only [noSel, Array.all_eq_true] at h2
    obtain ⟨hj, rfl⟩ := Array.getElem?_eq_some_iff.1 ho
    have := h2 j hj
    rw [hsel] at this
    cases this
  · intro c a d v w hh; exact hh
  · intro j o ho e he hb
    obtain ⟨hj, rfl⟩ := Array.getElem?_eq_some_iff.1 ho
    rw [Array.all_eq_true] at h6
    have := h6 j hj
    rw [Array.all_eq_true] at this
    obtain ⟨k, hk, rfl⟩ := Array.mem_iff_getElem.1 he
    have := this k hk
    simpa [hb] using this
  · refine ⟨by simp, fun i => ⟨fun hi => ?_, fun hi => hall i hi.1⟩, nodup_of_B _ h7, hp.1, hp.2, fun d r _ hd => ?_⟩
    · have := hback i hi
      exact ⟨this, by simp [Array.getD, this]⟩
    · exfalso
      simp only [Array.getD, Array.size_replicate] at hd
      split at hd <;> simp at hd
end
end PA
