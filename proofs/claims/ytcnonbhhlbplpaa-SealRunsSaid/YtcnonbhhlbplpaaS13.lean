/- SealCommits, the walk. -/
import Derived.Test.YtcnonbhhlbplpaaS9
namespace Go.Proofs.Ytcnonbhhlbplpaa
open Go.RowKit PA
/-- A row of bytes that came in, within the form's reach. -/
def IsArgR (w : World) (a : Option Addr) (len cap : Nat) (zs : List Int) : Prop :=
  (a = none ∧ len = 0 ∧ cap = 0 ∧ zs = []) ∨
  ∃ x, a = some x ∧ len ≤ cap ∧ cap ≤ 140737488351232 ∧ zs.length = cap ∧ (∀ i, i < zs.length → w.cell? (x.add i) = some (.int .u8 (zs.getD i 0))) ∧ ∀ n ∈ zs, (Lit.int .u8 n).wf = true
theorem argR {w : World} {a : Option Addr} {len cap : Nat} {zs : List Int} (h : IsArgR w a len cap zs) :
    ∃ l : List UInt8, len = l.length ∧ l.length ≤ 140737488351232 ∧ rBytes.rel (wm w) [.slice a len cap] l := by
  have h1 : IsArgB w a len cap zs := by
    rcases h with h | ⟨x, h1, h2, h3, h4⟩
    · exact .inl h
    · exact .inr ⟨x, h1, h2, Nat.le_trans h3 (by unfold maxLen; omega), h4⟩
  have h2 : len ≤ 140737488351232 := by
    rcases h with ⟨-, h, -⟩ | ⟨x, -, h2, h3, -⟩
    · omega
    · omega
  obtain ⟨l, hl, hr⟩ := argB h1
  exact ⟨l, hl, by omega, hr⟩
set_option maxRecDepth 100000 in
set_option maxHeartbeats 4000000 in
theorem sealCommits_walk (a0 : Option Addr) (len0 cap0 : Nat) (z0 : List Int) (a1 : Int) (a2 : Option Addr) (len2 cap2 : Nat) (z2 : List Int) (a3 : Int) (w : World)
    (w0 : IsArgR w a0 len0 cap0 z0) (w1 : (Lit.int .u64 a1).wf = true) (w2 : IsArgR w a2 len2 cap2 z2) (w3 : (Lit.int .u64 a3).wf = true) :
    Calls Try.prog 5 #[.slice a0 len0 cap0, .int .u64 a1, .slice a2 len2 cap2, .int .u64 a3] w fun e w' => e = .returned (.bool true) ∧ Below w.heap.size w w' := by
  obtain ⟨b, -, hbl, hb⟩ := argR w0
  obtain ⟨o, -, hol, ho⟩ := argR w2
  obtain ⟨s, rfl, -⟩ := u64_nat w1
  obtain ⟨c, rfl, -⟩ := u64_nat w3
  have h := Sat.startKn w
  have HB := Lib.hid (fun w' (h : Sat w w' (sep (kn (wm w)) emp)) => scommit_spec (.slice a0 len0 cap0) b s h hb (by omega))
  have HRB := Lib.hid (fun w' (h : Sat w w' (sep (kn (wm w)) emp)) => rcommit_spec (.slice a0 len0 cap0) b s h hb (by omega))
  have HRO := Lib.hid (fun w' (h : Sat w w' (sep (kn (wm w)) emp)) => rcommit_spec (.slice a2 len2 cap2) o c h ho (by omega))
  have HOP := Lib.hid (fun x w' (h : Sat w w' (sep (kn (wm w)) emp)) => opens_spec x (.slice a0 len0 cap0) b s h hb (by omega))
  obtain ⟨X, hX⟩ : ∃ X, X = commitN b s := ⟨_, rfl⟩
  obtain ⟨Y, hY⟩ : ∃ Y, Y = commitN o c := ⟨_, rfl⟩
  rw [← hX] at HB HRB HOP
  rw [← hY] at HRO
  obtain ⟨bc, hbc⟩ : ∃ bc, bc = decide (c = X) := ⟨_, rfl⟩
  obtain ⟨by_, hby⟩ : ∃ bc, bc = decide (Y = X) := ⟨_, rfl⟩
  have hcx : ((c : Int) == (X : Int)) = bc := by
    rw [hbc]
    by_cases e : c = X
    · subst e; simp
    · have : ¬ (c : Int) = (X : Int) := by omega
      simp [e, this]
  have hxy : ((X : Int) == (Y : Int)) = by_ := by
    rw [hby]
    by_cases e : Y = X
    · subst e; simp
    · have : ¬ (X : Int) = (Y : Int) := by omega
      simp [e, this]
  have HO1 := Lib.hid (fun w' h => HOP.out X w' h)
  have HO2 := Lib.hid (fun w' h => HOP.out c w' h)
  have HO3 := Lib.hid (fun w' h => HOP.out Y w' h)
  rw [decide_eq_true (rfl : X = X)] at HO1
  rw [← hbc] at HO2
  rw [← hby] at HO3
  have H := Lib.hid h
  clear w0 w1 w2 w3 hbl hol hb ho h HOP hbc hby hX hY
  go_enter Try.func5, Try.ntmps5
  go_wp2_with fail
  refine (HB.out _ H.out).mono ?_
  rintro e w1 ⟨rfl, h1⟩
  clear H HB
  have H1 := Lib.hid h1
  clear h1
  go_wp2_with fail
  refine (HRO.out _ H1.out).mono ?_
  rintro e w2 ⟨rfl, h2⟩
  have H2 := Lib.hid h2
  clear H1 HRO h2
  go_wp2_with fail
  refine (HRB.out _ H2.out).mono ?_
  rintro e w3 ⟨rfl, h3⟩
  have H3 := Lib.hid h3
  clear H2 HRB h3
  go_wp2_with fail
  refine (HO1.out _ H3.out).mono ?_
  rintro e w4 ⟨rfl, h4⟩
  have H4 := Lib.hid h4
  clear H3 HO1 h4
  go_wp2_with fail
  refine (HO2.out _ H4.out).mono ?_
  rintro e w5 ⟨rfl, h5⟩
  have H5 := Lib.hid h5
  clear H4 HO2 h5
  go_wp2_with fail
  refine (HO3.out _ H5.out).mono ?_
  rintro e w6 ⟨rfl, h6⟩
  have H6 := Lib.hid h6
  clear H5 HO3 h6
  go_wp2_with fail
  refine (lives31_spec H6.out).mono ?_
  rintro e w7 ⟨rfl, h7⟩
  have H7 := Lib.hid h7
  clear H6 h7
  go_wp2_with fail
  go_ret
  exact ⟨rfl, H7.out.below⟩
end Go.Proofs.Ytcnonbhhlbplpaa
