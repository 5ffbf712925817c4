/- bytes.Equal, bytes.HasPrefix. -/
import Derived.Test.YtdaknmcmjnbfeaaJ2
namespace Go.Proofs.Ytdaknmcmjnbfeaa
open Go.RowKit PA
theorem conv_str {I : Mem} {w : World} (v : Value) (b : List UInt8) (hv : rBytes.rel I [v] b) (hx : Ext I w) : ∃ a c, v = .slice a b.length c ∧ (convert 23 9 v).run Try.prog w = .ok (.string ⟨b.toArray⟩) w := by
  obtain ⟨a, c, rfl, hsw, hc⟩ := bytes_rel.1 hv
  have hsrc := src_ext hc hx
  refine ⟨a, c, rfl, ?_⟩
  cases a with
  | none =>
    have hc0 := hsw.2.2 rfl
    have hb0 : b = [] := List.eq_nil_of_length_eq_zero (by have := hsw.1; omega)
    subst hb0
    simp [convert, run_underlying Try.underlying23, run_underlying Try.underlying9, run_underlying Try.underlying5, Conv.bytesToString]
    rfl
  | some ad =>
    exact run_convert_bytes_back (P := Try.prog) w 23 9 5 ad c b Try.underlying23 Try.underlying5 Try.underlying9 (fun j hj => hsrc ad rfl j _ (by rw [List.getElem?_map, List.getElem?_eq_getElem hj]; rfl))
theorem bequal_spec {W w : World} {A : Assn} {I : Mem} (v u : Value) (x y : List UInt8) (h : Sat W w (sep (kn I) A)) (hv : rBytes.rel I [v] x) (hu : rBytes.rel I [u] y) :
    Calls Try.prog 78 #[v, u] w fun e w' => e = .returned (.bool (decide (x = y))) ∧ Sat W w' (sep (kn I) A) := by
  obtain ⟨a, c, rfl, h1⟩ := conv_str v x hv h.ext
  obtain ⟨a2, c2, rfl, h2⟩ := conv_str u y hu h.ext
  obtain ⟨n1, hn1⟩ : ∃ n1, n1 = x.length := ⟨_, rfl⟩
  obtain ⟨n2, hn2⟩ : ∃ n2, n2 = y.length := ⟨_, rfl⟩
  obtain ⟨s1, hs1⟩ : ∃ s1 : ByteArray, s1 = ⟨x.toArray⟩ := ⟨_, rfl⟩
  obtain ⟨s2, hs2⟩ : ∃ s2 : ByteArray, s2 = ⟨y.toArray⟩ := ⟨_, rfl⟩
  rw [← hn1, ← hs1] at h1
  rw [← hn2, ← hs2] at h2
  rw [← hn1, ← hn2]
  have he : (s1 = s2) ↔ x = y := by
    rw [hs1, hs2]
    constructor
    · intro e; have := congrArg (fun b => b.data.toList) e; simpa using this
    · rintro rfl; rfl
  have HE := Lib.hid he
  clear he hn1 hn2 hs1 hs2 hv hu
  go_enter Try.func78, Try.ntmps78
  go_wp2_with fail
  go_ret
  refine ⟨?_, h⟩
  by_cases e : s1 = s2
  · rw [decide_eq_true (HE.out.1 e)]; simp [e]
  · rw [decide_eq_false (fun e' => e (HE.out.2 e'))]
    have hne : (s1.toList == s2.toList) = false := by
      rw [beq_eq_false_iff_ne, ByteArray.toList_eq, ByteArray.toList_eq]
      exact fun h => e (ByteArray.ext (Array.toList_inj.1 h))
    rw [hne]
    rfl
theorem rel_take {I : Mem} {a : Option Addr} {n c : Nat} {l : List UInt8} (k : Nat) (hn : n = l.length) (hk : k ≤ n) (hv : rBytes.rel I [.slice a n c] l) : rBytes.rel I [.slice a k c] (l.take k) := by
  subst hn
  obtain ⟨a', c', e, hw, hc⟩ := bytes_rel.1 hv
  cases e
  have hl : (l.take k).length = k := by simp; omega
  refine bytes_rel.2 ⟨a, c, by rw [hl], ⟨by rw [hl]; have := hw.1; omega, hw.2.1, hw.2.2⟩, ?_⟩
  rcases hc with hc | ⟨b', o', cs, t, f, e1, e2, e3⟩
  · left
    have : l = [] := by simpa using hc
    rw [this]; simp
  · right
    refine ⟨b', o', cs, t, f, e1, e2, fun i u hu => e3 i u ?_⟩
    rw [List.map_take, List.getElem?_take] at hu
    split at hu
    · exact hu
    · cases hu
set_option maxHeartbeats 1000000 in
theorem hasprefix_spec {W w : World} {A : Assn} {I : Mem} (v u : Value) (x y : List UInt8) (h : Sat W w (sep (kn I) A)) (hv : rBytes.rel I [v] x) (hu : rBytes.rel I [u] y) :
    Calls Try.prog 67 #[v, u] w fun e w' => e = .returned (.bool (decide (x.take y.length = y))) ∧ Sat W w' (sep (kn I) A) := by
  obtain ⟨a, c, rfl, hsw, -⟩ := bytes_rel.1 hv
  obtain ⟨a2, c2, rfl, hsw2, -⟩ := bytes_rel.1 hu
  have hcap := hsw.2.1
  have hcap2 := hsw2.2.1
  have hlc := hsw.1
  unfold maxLen at hcap hcap2
  obtain ⟨n1, hn1⟩ : ∃ n1, n1 = x.length := ⟨_, rfl⟩
  obtain ⟨n2, hn2⟩ : ∃ n2, n2 = y.length := ⟨_, rfl⟩
  rw [← hn1] at hlc
  by_cases hlt : n2 ≤ n1
  · have heq := bequal_spec (.slice a n2 c) (.slice a2 n2 c2) (x.take n2) y h (rel_take n2 hn1 (by omega) (by rw [← hn1] at hv; exact hv)) (by rw [hn2]; exact hu)
    have b1 : decide ((n2 : Int) ≤ (n1 : Int)) = true := by simp; omega
    rw [← hn2]
    have HEQ := Lib.hid heq
    rw [← hn1]
    have hc2 : n2 ≤ c := by omega
    clear heq hv hu hsw hsw2 hn1 hn2
    go_enter Try.func67, Try.ntmps67
    go_wp2_with fail
    refine HEQ.out.mono ?_
    rintro e w2 ⟨rfl, h2⟩
    clear h HEQ
    go_wp2_with fail
    go_ret
    exact ⟨rfl, h2⟩
  · have e : decide (x.take y.length = y) = false := by
      rw [decide_eq_false_iff_not]
      intro e
      have := congrArg List.length e
      rw [List.length_take] at this
      omega
    rw [e, ← hn1, ← hn2]
    clear hv hu hsw hsw2 hn1 hn2 e
    go_enter Try.func67, Try.ntmps67
    go_wp2_with fail
    go_ret
    exact ⟨rfl, h⟩
end Go.Proofs.Ytdaknmcmjnbfeaa
