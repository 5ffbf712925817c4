/- Package seal: what a box holds; New, Put, Open, commitment. -/
import Derived.Test.YtcnonbhhlbplpaaS1
import Derived.Test.YtcnonbhhlbplpaaAk
import Derived.Test.YtcnonbhhlbplpaaKs
import Derived.Deep.DeepCutAuto
import Derived.Deep.CutBlock
namespace PA
open Go Go.RowKit
structure Ent where
  b : List UInt8
  s : Nat
  o : Bool
def eset (M : Int → Option Ent) (k : Int) (e : Ent) : Int → Option Ent := fun j => if j = k then some e else M j
def putE (M : Int → Option Ent) (n : Nat) (k : Int) (b : List UInt8) : Nat :=
  if k < 0 ∨ 65535 < k then 1 else if 65536 < b.length then 4 else if (M k).isSome then 8 else if 4096 ≤ n then 4 else 0
end PA
namespace Go.Proofs.Ytcnonbhhlbplpaa
open Go.RowKit PA
def entV (a : Option Addr) (n c s : Nat) (o : Bool) : Value := .agg #[.slice a n c, .int .u64 (s : Nat), .bool o]
def SOK (I : Mem) (f : Int → Option Value) (M : Int → Option Ent) : Prop :=
  (∀ k, M k = none → f k = none) ∧ ∀ k e, M k = some e → e.b.length ≤ 65536 ∧ ∃ a c, f k = some (entV a e.b.length c e.s e.o) ∧ rBytes.rel I [.slice a e.b.length c] e.b
theorem SOK.mono {I J : Mem} {f : Int → Option Value} {M : Int → Option Ent} (hl : Mem.le I J) (h : SOK I f M) : SOK J f M :=
  ⟨h.1, fun k e he => by obtain ⟨h1, a, c, e1, hr⟩ := h.2 k e he; exact ⟨h1, a, c, e1, rBytes.mono hl hr⟩⟩
def sokA (f : Int → Option Value) (M : Int → Option Ent) : Assn := pers (fun I => SOK I f M) fun _ _ hl h => h.mono hl
theorem SOK.isSome {I : Mem} {f : Int → Option Value} {M : Int → Option Ent} (h : SOK I f M) (k : Int) : (f k).isSome = (M k).isSome := by
  cases hm : M k with
  | none => rw [h.1 k hm]; rfl
  | some e => obtain ⟨_, a, c, e1, _⟩ := h.2 k e hm; rw [e1]; rfl
theorem SOK.put {I : Mem} {f : Int → Option Value} {M : Int → Option Ent} (h : SOK I f M) (k : Int) (e : Ent) {a : Option Addr} {c : Nat} (hb : e.b.length ≤ 65536) (hv : rBytes.rel I [.slice a e.b.length c] e.b) :
    SOK I (fset f k (some (entV a e.b.length c e.s e.o))) (eset M k e) := by
  refine ⟨fun j hj => ?_, fun j x hj => ?_⟩
  · by_cases e1 : j = k
    · simp [eset, e1] at hj
    · simp only [eset, e1, if_false] at hj
      simp only [fset, e1, if_false]; exact h.1 j hj
  · by_cases e1 : j = k
    · simp only [eset, e1, if_true, Option.some.injEq] at hj
      subst hj
      exact ⟨hb, a, c, by simp [fset, e1], hv⟩
    · simp only [eset, e1, if_false] at hj
      obtain ⟨h1, a', c', e2, hr⟩ := h.2 j x hj
      exact ⟨h1, a', c', by simp only [fset, e1, if_false]; exact e2, hr⟩
def isBox (p : Nat) (M : Int → Option Ent) (n : Nat) : Assn := ex fun x : Nat × (Int → Option Value) =>
  sep (fact (n ≤ 4096)) (sep (sokA x.2 M) (sep (bmap x.1 x.2 n) (blk p (.cells #[.map (some x.1)] 63 (0, 0)))))
section
variable {W w : World} {A : Assn}
theorem isBox_open {p : Nat} {M : Int → Option Ent} {n : Nat} (h : Sat W w (sep (isBox p M n) A)) : n ≤ 4096 ∧ ∃ b f,
    Sat W w (sep (blk p (.cells #[.map (some b)] 63 (0, 0))) (sep (bmap b f n) (sep (sokA f M) A))) := by
  rw [isBox, ex_sep, Sat.ex] at h
  obtain ⟨⟨b, f⟩, h⟩ := h
  rw [sep_assoc] at h
  obtain ⟨h1, h2⟩ := Sat.fact.1 h
  exact ⟨h1, b, f, by simpa only [sep_comm, sep_lcomm, sep_assoc] using h2⟩
theorem isBox_mk {p : Nat} {M : Int → Option Ent} {n b : Nat} {f : Int → Option Value} (h1 : n ≤ 4096)
    (h : Sat W w (sep (blk p (.cells #[.map (some b)] 63 (0, 0))) (sep (bmap b f n) (sep (sokA f M) A)))) : Sat W w (sep (isBox p M n) A) := by
  rw [isBox, ex_sep, Sat.ex]
  refine ⟨(b, f), ?_⟩
  rw [sep_assoc]
  exact Sat.fact.2 ⟨h1, by simpa only [sep_comm, sep_lcomm, sep_assoc] using h⟩
end
theorem zeroEntry (w : World) : (zeroValue 65).run Try.prog w = .ok (.agg #[.slice none 0 0, .int .u64 0, .bool false]) w := by kernel_rfl
theorem snew_spec {W w : World} {A : Assn} (h : Sat W w A) :
    Calls Try.prog 9 #[] w fun e w' => ∃ p, e = .returned (.pointer (some ⟨p, 0, none⟩)) ∧ Sat W w' (sep (isBox p (fun _ => none) 0) A) := by
  have hmm := @run_makeMap Try.prog
  go_enter Try.func9, Try.ntmps9
  go_wp2
  go_ret
  refine ⟨_, rfl, ?_⟩
  have h1 := h.bmap_new.alloc (.cells #[.map (some w.heap.size)] 63)
  rw [World.size_alloc] at h1
  have h2 := Sat.startPers W (fun I => SOK I (fun _ => none) (fun _ => none)) (fun I J hl h => h.mono hl) h1 ⟨fun _ _ => rfl, fun k e he => by cases he⟩
  refine isBox_mk (b := w.heap.size) (f := fun _ => none) (n := 0) (by omega) ?_
  have h3 : Sat W _ (sep (sokA (fun _ => none) (fun _ => none)) _) := h2
  show Sat W ((w.alloc (.map #[] 0)).alloc (.cells #[.map (some w.heap.size)] 63)) _
  simpa only [sep_comm, sep_lcomm, sep_assoc] using h3
theorem commitE_spec {W w : World} {A : Assn} {I : Mem} (a : Option Addr) (n c s : Nat) (o : Bool) (bs : List UInt8) (h : Sat W w (sep (kn I) A)) (hv : rBytes.rel I [.slice a n c] bs) (hb : bs.length ≤ 1073741824) :
    Calls Try.prog 35 #[entV a n c s o] w fun e w' => e = .returned (.int .u64 (commitN bs s : Nat)) ∧ Sat W w' (sep (kn I) A) := by
  have h1 := h.alloc0 (.cells #[.slice a n c, .int .u64 (s : Nat), .bool o] 65)
  have H1 := Lib.hid (scommit_spec (.slice a n c) bs s h1 hv (by omega))
  obtain ⟨cm, hcm⟩ : ∃ cm, cm = commitN bs s := ⟨_, rfl⟩
  rw [← hcm] at H1 ⊢
  unfold entV
  clear hv h hb hcm h1
  go_enter Try.func35, Try.ntmps35
  go_wp2_with fail
  refine H1.out.mono ?_
  rintro e w1 ⟨rfl, hS⟩
  clear H1
  go_wp2_with fail
  go_ret
  exact ⟨rfl, hS⟩
end Go.Proofs.Ytcnonbhhlbplpaa
