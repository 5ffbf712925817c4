/- The reference's box: what it holds; find. -/
import Derived.Test.YtcnonbhhlbplpaaS21
import Derived.Test.YtcnonbhhlbplpaaS20
namespace Go.Proofs.Ytcnonbhhlbplpaa
open Go.RowKit PA
def rEnt : Rep (Int × Ent) := ⟨fun I cs x => ∃ a c, cs = [.int .i64 x.1, .slice a x.2.b.length c, .int .u64 (x.2.s : Nat), .bool x.2.o] ∧ rBytes.rel I [.slice a x.2.b.length c] x.2.b, fun hl ⟨a, c, h1, h2⟩ => ⟨a, c, h1, rBytes.mono hl h2⟩⟩
def rbC (a : Option Addr) (n c : Nat) : Array Value := #[.slice a n c]
def isRBox (q : Nat) (L : EntL) : Assn := ex fun x : Option Addr × Nat × List Value =>
  sep (osl 79 4 x.1 L.length x.2.1 x.2.2) (sep ((rEnt.rows 4).is x.2.2 L) (blk q (.cells (rbC x.1 L.length x.2.1) 52 (0, 0))))
section
variable {W w : World} {A : Assn}
theorem isRBox_open {q : Nat} {L : EntL} (h : Sat W w (sep (isRBox q L) A)) : ∃ a c cells,
    Sat W w (sep (blk q (.cells (rbC a L.length c) 52 (0, 0))) (sep (osl 79 4 a L.length c cells) (sep ((rEnt.rows 4).is cells L) A))) := by
  rw [isRBox, ex_sep, Sat.ex] at h
  obtain ⟨⟨a, c, cells⟩, h⟩ := h
  exact ⟨a, c, cells, by simpa only [sep_comm, sep_lcomm, sep_assoc] using h⟩
theorem isRBox_mk {q : Nat} {L : EntL} {a : Option Addr} {n c : Nat} {cells : List Value} (hn : n = L.length)
    (h : Sat W w (sep (blk q (.cells (rbC a n c) 52 (0, 0))) (sep (osl 79 4 a n c cells) (sep ((rEnt.rows 4).is cells L) A)))) : Sat W w (sep (isRBox q L) A) := by
  subst hn
  rw [isRBox, ex_sep, Sat.ex]
  exact ⟨(a, c, cells), by simpa only [sep_comm, sep_lcomm, sep_assoc] using h⟩
/-- Where the entries lie. -/
theorem rbox_cells {a : Option Addr} {n c : Nat} {cells : List Value} {L : EntL} (h : Sat W w (sep (osl 79 4 a n c cells) (sep ((rEnt.rows 4).is cells L) A))) (i : Nat) (hi : i < L.length) :
    ∃ g b d, a = some ⟨g, 0, none⟩ ∧ w.cell? ⟨g, i * 4, none⟩ = some (.int .i64 L[i].1) ∧ w.cell? ⟨g, i * 4 + 1, none⟩ = some (.slice b L[i].2.b.length d) ∧ w.cell? ⟨g, i * 4 + 2, none⟩ = some (.int .u64 (L[i].2.s : Nat)) ∧ w.cell? ⟨g, i * 4 + 3, none⟩ = some (.bool L[i].2.o) ∧
      Sat W w (sep (rBytes.is [.slice b L[i].2.b.length d] L[i].2.b) (sep (osl 79 4 a n c cells) (sep ((rEnt.rows 4).is cells L) A))) := by
  obtain ⟨cv, h1, h2, h3⟩ := h.p1.rows_get i hi
  obtain ⟨b, d, rfl, hr⟩ := h3.pers_heap
  have hne : cells ≠ [] := fun e => by
    have := h2 0 (by omega)
    rw [e] at this; simp at this
  obtain ⟨g, rfl, hg⟩ := h.osl_at hne
  refine ⟨g, b, d, rfl, hg _ _ (h2 0 (by omega)), hg _ _ (h2 1 (by omega)), hg _ _ (h2 2 (by omega)), hg _ _ (h2 3 (by omega)), ?_⟩
  have h4 : Sat W w (sep (rBytes.is [.slice b L[i].2.b.length d] L[i].2.b) (sep ((rEnt.rows 4).is cells L) (sep (osl 79 4 (some ⟨g, 0, none⟩) n c cells) A))) := by
    refine h3.wk ?_
    rintro I m ⟨x, y, h1, h2, ⟨h3, a', c', e1, h4⟩, h5⟩
    simp only [List.cons.injEq, Value.slice.injEq, and_true, true_and] at e1
    obtain ⟨rfl, rfl⟩ := e1
    exact ⟨x, y, h1, h2, ⟨h3, h4⟩, h5⟩
  simpa only [sep_comm, sep_lcomm, sep_assoc] using h4
end
set_option maxRecDepth 100000 in
set_option maxHeartbeats 2000000 in
theorem rsfind_spec {W w : World} {A : Assn} (q : Nat) (L : EntL) (k : Int) (h : Sat W w (sep (isRBox q L) A)) (hl : L.length ≤ 1000000) :
    Calls Try.prog 43 #[.pointer (some ⟨q, 0, none⟩), .int .i64 k] w fun e w' => e = .returned (.int .i64 (fndL L k : Nat)) ∧ w' = w := by
  obtain ⟨a, c, cells, h0⟩ := isRBox_open h
  obtain ⟨n, hn⟩ : ∃ n, n = L.length := ⟨_, rfl⟩
  have c0 : w.cell? ⟨q, 0, none⟩ = some (.slice a n c) := by rw [hn]; exact h0.cell 0
  rw [← hn] at h0
  have hcl := fun i (hi : i < L.length) => rbox_cells h0.p1.p2.p1 i hi
  have hlt := fndL_lt L k
  have hge := fndL_ge L k
  have hle := fndL_le L k
  obtain ⟨f, hf⟩ : ∃ f, f = fndL L k := ⟨_, rfl⟩
  rw [← hf] at hle ⊢
  have HF := Lib.hid (And.intro hf hn)
  have HLT := Lib.hid hlt
  have HGE := Lib.hid hge
  have HC := Lib.hid hcl
  have hfn : f ≤ n := by omega
  have hnl : n ≤ 1000000 := by omega
  clear h h0 hlt hge hle hf hn hcl hl
  go_enter Try.func43, Try.ntmps43
  go_wp2
  go_loopw [5] (fun iv' wr => ∃ i : Nat, i ≤ f ∧ iv' = .int .i64 (i : Nat) ∧ wr = w) (fun iv' _ => f - (intOf iv').toNat)
  case atStart => exact ⟨0, by omega, rfl, rfl⟩
  case round =>
    obtain ⟨i, hi, rfl, rfl⟩ := hrel
    by_cases hin : i < n
    · have hiL : i < L.length := by rw [← HF.out.2]; exact hin
      obtain ⟨g, b, d, rfl, g0, -, -, -, -⟩ := HC.out i hiL
      obtain ⟨x, hx⟩ : ∃ x, x = L[i].1 := ⟨_, rfl⟩
      rw [← hx] at g0
      have hinI : (i : Int) < (n : Int) := by omega
      by_cases hif : i < f
      · have hxk : x < k := by rw [hx]; exact HLT.out i hiL (by rw [← HF.out.1]; exact hif)
        clear hx
        go_wp2_with fail
        go_roundw
        case rel => exact ⟨i + 1, by omega, rfl, trivial⟩
        case measure => simp only [intOf]; omega
      · have hxk : ¬ x < k := by
          obtain rfl : i = f := by omega
          have := HGE.out (by rw [← HF.out.1]; exact hiL)
          simp only [← HF.out.1] at this
          rw [hx]; omega
        obtain rfl : i = f := by omega
        clear hx
        go_wp2_with fail
        go_ret
        exact ⟨rfl, rfl⟩
    · have hinI : ¬ (i : Int) < (n : Int) := by omega
      obtain rfl : i = f := by omega
      go_wp2_with fail
      go_ret
      exact ⟨rfl, rfl⟩
end Go.Proofs.Ytcnonbhhlbplpaa
