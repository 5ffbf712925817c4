/- JournalRuns, the walk. -/
import Derived.Test.YtdaknmcmjnbfeaaGreatGJournalRunsSJr
import Derived.Test.YtdaknmcmjnbfeaaGreatGJournalRuns19
namespace Go.Proofs.YtdaknmcmjnbfeaaGreat
open Go.RowKit PA
theorem step_room (s : DSt) : s.step.2.room = s.room := s.step_fs.2
theorem append_room (s : DSt) (n : Int) (b : List UInt8) : (appendD s n b).2.room = s.room := by
  unfold appendD
  split
  · rfl
  · split
    · rfl
    · split
      · rfl
      · exact step_room _
theorem sync_room (s : DSt) : (syncD s).2.room = s.room := by
  unfold syncD
  split
  · rfl
  · split
    · exact step_room _
    · exact step_room _
theorem trunc_room (s : DSt) (n z : Int) : (truncD s n z).2.room = s.room := by
  unfold truncD
  split
  · rfl
  · split
    · rfl
    · split
      · exact step_room _
      · exact step_room _
theorem arm_room (s : DSt) (n : Int) : (armD s n).room = s.room := by
  unfold armD
  split <;> rfl
theorem open_room (s : DSt) (f : Int) : (openJ s f).2.1.room = s.room := by
  unfold openJ openT cutTo
  split
  · rfl
  · split
    · split
      · exact trunc_room _ _ _
      · split
        · exact (sync_room _).trans (trunc_room _ _ _)
        · exact (sync_room _).trans (trunc_room _ _ _)
    · split
      · rfl
      · split
        · exact sync_room _
        · exact sync_room _
theorem appendJ_room (d : DSt) (L : LSt) (b : List UInt8) : (appendJ d L b).2.1.room = d.room := by
  unfold appendJ
  split
  · rfl
  · split
    · rfl
    · split
      · exact append_room _ _ _
      · exact (sync_room _).trans (append_room _ _ _)
theorem appendJ_n (d : DSt) (L : LSt) (b : List UInt8) : (appendJ d L b).2.2.n ≤ L.n + 1 := by
  have h : ∀ e, (L.after e).n ≤ L.n + 1 := fun e => by unfold LSt.after; dsimp only; split <;> omega
  unfold appendJ
  split
  · exact Nat.le_succ _
  · split
    · exact h _
    · split
      · exact h _
      · exact h _
theorem read_le {s : DSt} (h : s.ok) (hr : s.room ≤ 240) : (readD s 2).1.length ≤ 240 ∧ (s.fs 2).1.length ≤ 240 := by
  have h1 := used_ge (fs := s.fs) (n := 2) (by omega)
  have h2 := h.fit
  unfold DSt.used at h2
  refine ⟨?_, by omega⟩
  unfold readD
  split
  · simp
  · split
    · simp
    · show (s.fs 2).1.length ≤ _; omega
theorem open_n {s : DSt} (h : s.ok) (hr : s.room ≤ 240) : (recs (openJ s 2)).n ≤ 240 := by
  have h1 := (read_le h hr).1
  show (openJ s 2).2.2.length ≤ 240
  unfold openJ openT
  split
  · simp
  · split
    · simp
    · split
      · simp
      · have := (scanJ_le _ 0 (readD s 2).1 (Nat.le_refl _)).2
        show (scanJ 0 (readD s 2).1).1.length ≤ 240
        omega
theorem tdiv_i64 (n : Int) (h1 : -9223372036854775808 ≤ n) (h2 : n ≤ 9223372036854775807) (k : Int) (hk : 2 ≤ k) : -9223372036854775808 ≤ n.tdiv k ∧ n.tdiv k ≤ 9223372036854775807 := by
  rcases Int.le_total 0 n with h | h
  · have : n.tdiv k = n / k := Int.tdiv_eq_ediv_of_nonneg h
    rw [this]
    have h3 := Int.ediv_nonneg h (by omega : 0 ≤ k)
    have h4 := Int.ediv_le_self k h
    omega
  · have h0 : n.tdiv k = -((-n).tdiv k) := by rw [Int.neg_tdiv]; omega
    have : (-n).tdiv k = (-n) / k := Int.tdiv_eq_ediv_of_nonneg (by omega)
    rw [h0, this]
    have h3 := Int.ediv_nonneg (by omega : 0 ≤ -n) (by omega : 0 ≤ k)
    have h4 := Int.ediv_le_self k (by omega : 0 ≤ -n)
    omega
/-- What both ends hold. -/
def bothA (p pr : Nat) (s : DSt) (L : LSt) (oq orr : Option Nat) (J : Mem) : Assn := sep (isDisk p s) (sep (isRD pr s) (sep (logO p L oq) (sep (rlogO pr L orr) (kn J))))
structure JOK (w : World) (s : DSt) (L : LSt) (i : Nat) (J : Mem) : Prop where
  room : s.room ≤ 240
  n : L.n ≤ 240 + i
  le : Mem.le (wm w) J
theorem drop_log {W w : World} {A : Assn} {p : Nat} {L : LSt} {o : Option Nat} (h : Sat W w (sep (logO p L o) A)) : Sat W w A := by
  cases o with
  | none => have h2 : Sat W w (sep emp A) := h; rwa [emp_sep] at h2
  | some q => have h2 : Sat W w (sep (isLog q p L) A) := h; exact h2.drop
theorem drop_rlog {W w : World} {A : Assn} {p : Nat} {L : LSt} {o : Option Nat} (h : Sat W w (sep (rlogO p L o) A)) : Sat W w A := by
  cases o with
  | none => have h2 : Sat W w (sep emp A) := h; rwa [emp_sep] at h2
  | some q => have h2 : Sat W w (sep (isRLog q p L) A) := h; exact h2.forget
/-- Open at both ends. -/
theorem both_m {w w1 : World} {p pr : Nat} {s : DSt} {L : LSt} {oq orr : Option Nat} {i : Nat} {J : Mem} (hk : JOK w s L i J) (h : Sat w w1 (sep (bothA p pr s L oq orr J) emp)) :
    Calls Tryz.prog 7 #[.pointer (some ⟨p, 0, none⟩), .int .i64 2] w1 fun e w' => ∃ (o : Option Nat) (u : Value) (J1 : Mem), e = .returned (.tuple #[ptrO o, u, .int .i64 (openJ s 2).1]) ∧ o.isSome = decide ((openJ s 2).1 = 0) ∧ Mem.le J J1 ∧ (rBytes.slice 1).rel J1 [u] (openJ s 2).2.2 ∧
      Sat w w' (sep (kn J1) (sep (logO p (recs (openJ s 2)) o) (sep (isDisk p (openJ s 2).2.1) (sep (isRD pr s) emp)))) := by
  have h1 : Sat w w1 (sep (logO p L oq) (sep (rlogO pr L orr) (sep (isDisk p s) (sep (kn J) (sep (isRD pr s) emp))))) := by
    unfold bothA at h
    simpa only [sep_comm, sep_lcomm, sep_assoc] using h
  have h2 := drop_rlog (drop_log h1)
  have hok := isDisk_ok h2
  exact jopen_both p s h2 (by have := (read_le hok hk.room).1; omega)
theorem both_r {w w1 : World} {p pr : Nat} {s : DSt} {L : LSt} {i : Nat} {J J1 : Mem} {o : Option Nat} (hk : JOK w s L i J) (hJ : Mem.le J J1) (h : Sat w w1 (sep (kn J1) (sep (logO p (recs (openJ s 2)) o) (sep (isDisk p (openJ s 2).2.1) (sep (isRD pr s) emp))))) (i' : Nat) :
    Calls Tryz.prog 8 #[.pointer (some ⟨pr, 0, none⟩), .int .i64 2] w1 fun e w' => ∃ (o' : Option Nat) (u : Value) (J2 : Mem), e = .returned (.tuple #[ptrO o', u, .int .i64 (openJ s 2).1]) ∧ o'.isSome = decide ((openJ s 2).1 = 0) ∧ Mem.le J1 J2 ∧ (rBytes.slice 1).rel J2 [u] (openJ s 2).2.2 ∧
      JOK w (openJ s 2).2.1 (recs (openJ s 2)) i' J2 ∧ Sat w w' (sep (bothA p pr (openJ s 2).2.1 (recs (openJ s 2)) o o' J2) emp) := by
  have h1 : Sat w w1 (sep (isRD pr s) (sep (kn J1) (sep (logO p (recs (openJ s 2)) o) (sep (isDisk p (openJ s 2).2.1) emp)))) := by simpa only [sep_comm, sep_lcomm, sep_assoc] using h
  have hok := isRD_ok h1
  refine (ropen_spec pr s h1 (by have := (read_le hok hk.room).2; omega)).mono ?_
  rintro e w' ⟨o', u, J2, rfl, h2, h3, h4, h5⟩
  refine ⟨o', u, J2, rfl, h2, h3, h4, ⟨by rw [open_room]; exact hk.room, by have := open_n hok hk.room; omega, Mem.le_trans hk.le (Mem.le_trans hJ h3)⟩, ?_⟩
  unfold bothA
  simpa only [sep_comm, sep_lcomm, sep_assoc] using h5
/-- A crash at both ends, with one number kept. -/
theorem crash_m {w w1 : World} {p pr : Nat} {s : DSt} {L : LSt} {oq orr : Option Nat} {i : Nat} {J : Mem} (hk : JOK w s L i J) (h : Sat w w1 (sep (bothA p pr s L oq orr J) emp)) (x : Nat) :
    Calls Tryz.prog 11 #[.pointer (some ⟨p, 0, none⟩), .slice (some ⟨w1.heap.size, 0, none⟩) 1 1, .int .i64 (((x / 30 % 300 : Nat) : Int) - 100)] (w1.alloc (.cells #[.int .i64 ((x % 30 : Nat) : Int)] 3)) fun e w2 => ∃ J5, e = .returned (.tuple #[]) ∧ Mem.le J J5 ∧
      Calls Tryz.prog 12 #[.pointer (some ⟨pr, 0, none⟩), .slice (some ⟨w1.heap.size, 0, none⟩) 1 1, .int .i64 (((x / 30 % 300 : Nat) : Int) - 100)] w2 fun e w3 => e = .returned (.tuple #[]) ∧ JOK w (crashD s [((x % 30 : Nat) : Int)] (((x / 30 % 300 : Nat) : Int) - 100)) L (i + 1) J5 ∧
        Sat w w3 (sep (bothA p pr (crashD s [((x % 30 : Nat) : Int)] (((x / 30 % 300 : Nat) : Int) - 100)) L oq orr J5) emp) := by
  have h1 : Sat w w1 (sep (kn J) (sep (isDisk p s) (sep (isRD pr s) (sep (logO p L oq) (sep (rlogO pr L orr) emp))))) := by
    unfold bothA at h
    simpa only [sep_comm, sep_lcomm, sep_assoc] using h
  obtain ⟨J5, hJ5, hri, h2⟩ := litI h1 [((x % 30 : Nat) : Int)] 3 (by simp [maxLen])
  have h64 : ∀ y ∈ [((x % 30 : Nat) : Int)], I64' y := by
    intro y hy
    rw [List.mem_singleton.1 hy]
    exact ⟨by omega, by omega⟩
  refine (dcrash_spec p s _ _ _ [((x % 30 : Nat) : Int)] (((x / 30 % 300 : Nat) : Int) - 100) h2.p1 hri h64 ⟨by omega, by omega⟩).mono ?_
  rintro e w2 ⟨rfl, h3⟩
  refine ⟨J5, rfl, hJ5, ?_⟩
  refine (rdcrash_spec pr s _ _ _ [((x % 30 : Nat) : Int)] (((x / 30 % 300 : Nat) : Int) - 100) (show Sat w w2 (sep (isRD pr s) (sep (kn J5) (sep (isDisk p (crashD s [((x % 30 : Nat) : Int)] (((x / 30 % 300 : Nat) : Int) - 100))) (sep (logO p L oq) (sep (rlogO pr L orr) emp))))) by simpa only [sep_comm, sep_lcomm, sep_assoc] using h3) hri ⟨by omega, by omega⟩).mono ?_
  rintro e w3 ⟨rfl, h4⟩
  refine ⟨rfl, ⟨hk.room, by have := hk.n; omega, Mem.le_trans hk.le hJ5⟩, ?_⟩
  unfold bothA
  simpa only [sep_comm, sep_lcomm, sep_assoc] using h4
/-- Arm at both ends. -/
theorem arm_m {w w1 : World} {p pr : Nat} {s : DSt} {L : LSt} {oq orr : Option Nat} {i : Nat} {J : Mem} (hk : JOK w s L i J) (h : Sat w w1 (sep (bothA p pr s L oq orr J) emp)) (x : Nat) (hx : x < 5) :
    Calls Tryz.prog 9 #[.pointer (some ⟨p, 0, none⟩), .int .i64 (x : Nat)] w1 fun e w2 => e = .returned (.tuple #[]) ∧
      Calls Tryz.prog 10 #[.pointer (some ⟨pr, 0, none⟩), .int .i64 (x : Nat)] w2 fun e w3 => e = .returned (.tuple #[]) ∧ JOK w (armD s (x : Nat)) L (i + 1) J ∧ Sat w w3 (sep (bothA p pr (armD s (x : Nat)) L oq orr J) emp) := by
  have h1 : Sat w w1 (sep (isDisk p s) (sep (kn J) (sep (isRD pr s) (sep (logO p L oq) (sep (rlogO pr L orr) emp))))) := by
    unfold bothA at h
    simpa only [sep_comm, sep_lcomm, sep_assoc] using h
  refine (darm_spec p s (x : Nat) h1 ⟨by omega, by omega⟩).mono ?_
  rintro e w2 ⟨rfl, h3⟩
  refine ⟨rfl, ?_⟩
  refine (rdarm_spec pr s (x : Nat) (show Sat w w2 (sep (isRD pr s) (sep (kn J) (sep (isDisk p (armD s (x : Nat))) (sep (logO p L oq) (sep (rlogO pr L orr) emp))))) by simpa only [sep_comm, sep_lcomm, sep_assoc] using h3) ⟨by omega, by omega⟩).mono ?_
  rintro e w3 ⟨rfl, h4⟩
  refine ⟨rfl, ⟨by rw [arm_room]; exact hk.room, by have := hk.n; omega, hk.le⟩, ?_⟩
  unfold bothA
  simpa only [sep_comm, sep_lcomm, sep_assoc] using h4
theorem slice_elemU {α : Type} {R : Rep α} {I : Mem} {a : Option Addr} {n c : Nat} {xs : List α} (h : (R.slice 1).rel I [.slice a n c] xs) (i : Nat) (hi : i < xs.length) :
    ∃ b o v, a = some ⟨b, o, none⟩ ∧ (∀ w, Ext I w → w.cell? ⟨b, o + i, none⟩ = some v) ∧ R.rel I [v] xs[i] := by
  obtain ⟨a', c', cells, e, hw, hc, css, rfl, hall⟩ := h
  simp only [List.cons.injEq, Value.slice.injEq, and_true] at e
  obtain ⟨rfl, rfl, rfl⟩ := e
  have hl := hall.length
  have hi' : i < css.length := by omega
  obtain ⟨hr, hk⟩ := hall.get i hi' hi
  obtain ⟨v, hv⟩ : ∃ v, css[i] = [v] := by
    match hcs : css[i], hk with
    | [x], _ => exact ⟨x, rfl⟩
  have hf := flatten_get (k := 1) css (fun c hc => (hall.mem c hc).choose_spec.2) i hi' 0 (by omega)
  rw [hv] at hf hr
  have hf2 : css.flatten[i]? = some v := by simpa using hf
  obtain ⟨b, o, e, h2⟩ := cells_ext hc (fun e => by rw [e] at hf2; simp at hf2)
  exact ⟨b, o, v, e, fun w he => h2 w he i v hf2, hr⟩
theorem lists_kn {W w : World} {A : Assn} {J : Mem} (v u : Value) (xs : List (List UInt8)) (h : Sat W w (sep (kn J) A)) (h1 : (rBytes.slice 1).rel J [v] xs) (h2 : (rBytes.slice 1).rel J [u] xs) :
    Calls Tryz.prog 13 #[v, u] w fun e w' => e = .returned (.bool true) ∧ Sat W w' (sep (kn J) A) := sameLists_spec v u xs ((h.tell h2).p1.tell h1).p2.p1
theorem sameb_kn {W w : World} {A : Assn} {J : Mem} (v u : Value) (x : List UInt8) (h : Sat W w (sep (kn J) A)) (h1 : rBytes.rel J [v] x) (h2 : rBytes.rel J [u] x) :
    Calls Tryz.prog 20 #[v, u] w fun e w' => e = .returned (.bool true) ∧ Sat W w' (sep (kn J) A) := by
  have := sameBytes_spec v u x x ((h.tell h2).p1.tell h1).p2.p1
  rw [decide_eq_true rfl] at this
  exact this.mono fun e w' ⟨h1, h2⟩ => ⟨h1, h2.drop.drop⟩
set_option maxRecDepth 100000 in
set_option maxHeartbeats 16000000 in
theorem journalRuns_walk (a0 : Int) (a1 : Option Addr) (len1 cap1 : Nat) (z1 : List Int) (w : World)
    (w0 : (Lit.int .i64 a0).wf = true) (w1 : IsArg w a1 len1 cap1 z1) :
    Calls Tryz.prog 3 #[.int .i64 a0, .slice a1 len1 cap1] w fun e w' => e = .returned (.bool true) ∧ Below w.heap.size w w' := by
  obtain ⟨ns, hns, hr1, h64⟩ := argI w1
  have hn0 := i64_of_wf w0
  have HQ := Lib.hid (fun w' => around_spec a0 200 w' hn0.1 hn0.2 (by omega) (by omega))
  have hq := aroundI_lt a0 200 (by omega)
  obtain ⟨z0, hz0⟩ : ∃ z0, z0 = aroundI a0 200 := ⟨_, rfl⟩
  rw [← hz0] at HQ hq
  obtain ⟨hz1, hz2⟩ := hq
  obtain ⟨k, hk⟩ : ∃ k : Nat, 40 + z0 = (k : Int) := ⟨(40 + z0).toNat, by omega⟩
  have hk240 : k ≤ 240 := by omega
  have HR := Lib.hid (And.intro hns (And.intro hr1 h64))
  have HK := Lib.hid hk
  clear w0 w1 hns hr1 h64 hn0 hz0 hk
  obtain ⟨nl, hnl⟩ : ∃ nl, nl = len1 := ⟨_, rfl⟩
  have hsw := (slice_form' HR.out.2.1)
  obtain ⟨xa', xc', hxe, hswx⟩ := hsw
  simp only [Value.slice.injEq] at hxe
  obtain ⟨-, -, rfl⟩ := hxe
  have hlc : len1 ≤ cap1 := by rw [HR.out.1]; exact hswx.1
  have hcm : cap1 ≤ 9223372036854775807 := hswx.2.1
  clear hswx hnl
  have qL : ∀ (o : Option Nat) (w : World), (binOp .eql 28 (ptrO o) (.pointer none)).run Tryz.prog w = .ok (.bool (!o.isSome)) w := by
    intro o w
    cases o with
    | none => rfl
    | some q => rfl
  have qR : ∀ (o : Option Nat) (w : World), (binOp .eql 33 (ptrO o) (.pointer none)).run Tryz.prog w = .ok (.bool (!o.isSome)) w := by
    intro o w
    cases o with
    | none => rfl
    | some q => rfl
  have HQL := Lib.hid qL
  have HQR := Lib.hid qR
  clear qL qR
  go_enter Tryz.func3, Tryz.ntmps3
  go_wp2_with fail
  refine (HQ.out w).mono ?_
  rintro e w' ⟨rfl, rfl⟩
  clear HQ
  go_wp2_with fail
  rw [HK.out]
  refine (fresh_spec k (Sat.startKn w) (by omega)).mono ?_
  rintro e w2 ⟨p, rfl, h2⟩
  have HN := Lib.hid (rdnew_spec k h2 (by omega))
  clear h2
  go_wp2_with fail
  refine HN.out.mono ?_
  rintro e w3 ⟨pr, rfl, h3⟩
  have hJ0 : JOK w (newD k) ⟨2, 0, false⟩ 0 (wm w) := ⟨by show k ≤ 240; omega, Nat.zero_le _, Mem.le_refl _⟩
  have HM := Lib.hid (both_m hJ0 (show Sat w w3 (sep (bothA p pr (newD k) ⟨2, 0, false⟩ none none (wm w)) emp) by
    unfold bothA
    rw [show logO p ⟨2, 0, false⟩ none = emp from rfl, show rlogO pr ⟨2, 0, false⟩ none = emp from rfl]
    rw [emp_sep, emp_sep]
    simpa only [sep_comm, sep_lcomm, sep_assoc] using h3))
  have HJ0 := Lib.hid hJ0
  clear HN h3 hJ0
  go_wp2_with fail
  refine HM.out.mono ?_
  rintro e w4 ⟨o1, u1, J1, rfl, ho1, hJ1, -, h4⟩
  have HRO := Lib.hid (both_r HJ0.out hJ1 h4 0)
  have HO1 := Lib.hid ho1
  clear HM h4 hJ1 ho1
  go_wp2_with fail
  refine HRO.out.mono ?_
  rintro e w5 ⟨o2, u2, J2, rfl, ho2, -, -, hJK, h5⟩
  have HO2 := Lib.hid (show o1.isSome = o2.isSome by rw [ho2, HO1.out])
  have HJK := Lib.hid hJK
  have H5 := Lib.hid h5
  obtain ⟨e0, he0⟩ : ∃ e0, e0 = (openJ (newD k) 2).1 := ⟨_, rfl⟩
  rw [← he0]
  clear HRO ho2 hJK h5 HO1 HJ0 he0
  go_wp2_with fail
  go_loopw [8, 10, 11, 13, 14] (fun lv ev nv fv iv wr => ∃ (i : Nat) (s : DSt) (L : LSt) (oq orr : Option Nat) (J : Mem) (er : Int), i ≤ 14 ∧ lv = ptrO oq ∧ nv = ptrO orr ∧ ev = .int .i64 er ∧ fv = .int .i64 er ∧ iv = .int .i64 (i : Nat) ∧ Hid (oq.isSome = orr.isSome) ∧ Hid (JOK w s L i J) ∧ Hid (Sat w wr (sep (bothA p pr s L oq orr J) emp))) (fun _ _ _ _ iv _ => 14 - (intOf iv).toNat)
  case atStart => exact ⟨0, _, _, o1, o2, J2, e0, Nat.zero_le _, rfl, rfl, rfl, rfl, rfl, HO2, HJK, H5⟩
  case round =>
    clear H5 HJK HO2
    obtain ⟨i, s, L, oq, orr, J, er, hi, rfl, rfl, rfl, rfl, rfl, HOO, HJ, HS⟩ := hrel
    by_cases hlt : i < len1 ∧ i < 14
    · obtain ⟨hi1, hi2⟩ := hlt
      have g1 : (i : Int) < (len1 : Int) := by omega
      have g2 : (i : Int) < 14 := by omega
      obtain ⟨bb, oo, rfl, hcell⟩ := ints_cell HR.out.1 ((rInt.slice 1).mono HJ.out.le HR.out.2.1) (show Ext J wr by have := HS.out; unfold bothA at this; exact (show Sat w wr (sep (kn J) (sep (isDisk p s) (sep (isRD pr s) (sep (logO p L oq) (sep (rlogO pr L orr) emp))))) by simpa only [sep_comm, sep_lcomm, sep_assoc] using this).ext) i hi1
      obtain ⟨z, hz⟩ : ∃ z, z = ns[i]'(by have := HR.out.1; omega) := ⟨_, rfl⟩
      have hz64 : I64' z := by rw [hz]; exact HR.out.2.2 _ (List.getElem_mem _)
      rw [← hz] at hcell
      have hd8 := tdiv_i64 z hz64.1 hz64.2 8 (by omega)
      obtain ⟨z8, hz8⟩ : ∃ z8, z.tdiv 8 = z8 := ⟨_, rfl⟩
      rw [hz8] at hd8
      have HA1 := Lib.hid (fun w' => around_spec z8 1048576 w' hd8.1 hd8.2 (by omega) (by omega))
      have HA2 := Lib.hid (fun w' => around_spec z 8 w' hz64.1 hz64.2 (by omega) (by omega))
      have hx := aroundI_lt z8 1048576 (by omega)
      obtain ⟨x, hx0⟩ : ∃ x : Nat, aroundI z8 1048576 = (x : Int) := ⟨(aroundI z8 1048576).toNat, by omega⟩
      rw [hx0] at HA1 hx
      have hx1 : x < 1048576 := by omega
      have hc := aroundI_lt z 8 (by omega)
      obtain ⟨c, hc0⟩ : ∃ c : Nat, aroundI z 8 = (c : Int) := ⟨(aroundI z 8).toNat, by omega⟩
      rw [hc0] at HA2 hc
      have hc1 : c < 8 := by omega
      obtain ⟨on, hon⟩ : ∃ on, on = oq.isSome := ⟨_, rfl⟩
      have qL : ∀ (w : World), (binOp .eql 28 (ptrO oq) (.pointer none)).run Tryz.prog w = .ok (.bool (!on)) w := by rw [hon]; exact HQL.out oq
      have qR : ∀ (w : World), (binOp .eql 33 (ptrO orr) (.pointer none)).run Tryz.prog w = .ok (.bool (!on)) w := by rw [hon, HOO.out]; exact HQR.out orr
      have gL : ∀ (x y : Operand) (w : World), (eqGuard .eql 28 x y (ptrO oq) (.pointer none)).run Tryz.prog w = .ok () w := by
        intro x y w
        cases oq <;> rfl
      have gR : ∀ (x y : Operand) (w : World), (eqGuard .eql 33 x y (ptrO orr) (.pointer none)).run Tryz.prog w = .ok () w := by
        intro x y w
        cases orr <;> rfl
      have HON := Lib.hid hon
      have HZ := Lib.hid hz64
      clear hz hz64 hx hx0 hc hc0 hon hi1 hi2
      go_wp2_with fail
      refine (HA1.out wr).mono ?_
      rintro e w' ⟨rfl, rfl⟩
      clear HA1
      go_wp2_with fail
      refine (HA2.out wr).mono ?_
      rintro e w' ⟨rfl, rfl⟩
      clear HA2 hcell
      go_upto_block 2 with (fail)
      go_cut [8, 10, 11, 13] (fun lv ev nv fv wx => ∃ (s' : DSt) (L' : LSt) (oq' orr' : Option Nat) (J' : Mem) (er' : Int), lv = ptrO oq' ∧ nv = ptrO orr' ∧ ev = .int .i64 er' ∧ fv = .int .i64 er' ∧ Hid (oq'.isSome = orr'.isSome) ∧ Hid (JOK w s' L' (i + 1) J') ∧ Hid (Sat w wx (sep (bothA p pr s' L' oq' orr' J') emp)))
      case first =>
        by_cases c0 : c = 0
        · subst c0
          obtain ⟨r5, hr5⟩ : ∃ r5, r5 = x % 5 := ⟨_, rfl⟩
          have h5 : (x : Int).tmod 5 = (r5 : Int) := by rw [Int.tmod_eq_emod_of_nonneg (by omega)]; omega
          have hr5b : r5 < 5 := by omega
          have HA := Lib.hid (arm_m HJ.out HS.out r5 hr5b)
          clear HS hr5
          go_wp2_with fail
          refine HA.out.mono ?_
          rintro e w6 ⟨rfl, h6⟩
          have HA2 := Lib.hid h6
          clear HA h6
          go_wp2_with fail
          refine HA2.out.mono ?_
          rintro e w7 ⟨rfl, hJK, h7⟩
          have HJK := Lib.hid hJK
          have H7 := Lib.hid h7
          clear HA2 hJK h7
          go_wp2_with fail
          go_meet
          exact ⟨_, _, oq, orr, J, er, rfl, rfl, rfl, rfl, HOO, HJK, H7⟩
        · have b0 : ((c : Int) == 0) = false := by simp; omega
          by_cases c1 : c = 1
          · subst c1
            clear c0
            have HCR := Lib.hid (crash_m HJ.out HS.out x)
            obtain ⟨r30, hr30⟩ : ∃ r30, r30 = x % 30 := ⟨_, rfl⟩
            obtain ⟨d30, hd30⟩ : ∃ d30, d30 = x / 30 := ⟨_, rfl⟩
            obtain ⟨m300, hm300⟩ : ∃ m300, m300 = d30 % 300 := ⟨_, rfl⟩
            have h30 : (x : Int).tmod 30 = (r30 : Int) := by rw [Int.tmod_eq_emod_of_nonneg (by omega)]; omega
            have h31 : (x : Int).tdiv 30 = (d30 : Int) := by rw [Int.tdiv_eq_ediv_of_nonneg (by omega)]; omega
            have h32 : (d30 : Int).tmod 300 = (m300 : Int) := by rw [Int.tmod_eq_emod_of_nonneg (by omega)]; omega
            have hr1 : r30 < 30 := by omega
            have hd1 : d30 ≤ 40000 := by omega
            have hm1 : m300 < 300 := by omega
            rw [← hr30, ← hd30, ← hm300] at HCR
            clear hr30 hd30 hm300 HS
            go_wp2_with fail
            refine HCR.out.mono ?_
            rintro e w5 ⟨J5, rfl, hJ5, h5⟩
            have HC2 := Lib.hid h5
            clear HCR h5
            go_wp2_with fail
            refine HC2.out.mono ?_
            rintro e w5' ⟨rfl, hJ5K, h5⟩
            have HJ5 := Lib.hid hJ5K
            have HS5 := Lib.hid h5
            clear HC2 h5 hJ5K hJ5
            have HM := Lib.hid (both_m HJ5.out HS5.out)
            clear HS5 h30 h31 h32
            go_wp2_with fail
            refine HM.out.mono ?_
            rintro e w6 ⟨o1, u1, J1, rfl, ho1, hJ1, hu1, h6⟩
            have HRO := Lib.hid (both_r HJ5.out hJ1 h6 (i + 1))
            have HO1 := Lib.hid (And.intro ho1 hu1)
            clear HM h6 hJ1 ho1 hu1
            go_wp2_with fail
            refine HRO.out.mono ?_
            rintro e w7 ⟨o2, u2, J2, rfl, ho2, hJ2, hu2, hJK, h7⟩
            have HO2 := Lib.hid (show o1.isSome = o2.isSome by rw [ho2, HO1.out.1])
            have HJK := Lib.hid hJK
            have H7 := Lib.hid h7
            obtain ⟨e1, he1⟩ : ∃ e1, e1 = (openJ (crashD s [(r30 : Int)] ((m300 : Int) - 100)) 2).1 := ⟨_, rfl⟩
            rw [← he1]
            clear HRO ho2 hJK h7 hu2 hJ2 HO1 he1
            go_wp2_with fail
            go_meet
            exact ⟨_, _, o1, o2, J2, e1, rfl, rfl, rfl, rfl, HO2, HJK, H7⟩
          · have b1 : ((c : Int) == 1) = false := by simp; omega
            by_cases c2 : c = 2
            · subst c2
              clear c0 c1
              have HCR := Lib.hid (crash_m HJ.out HS.out x)
              obtain ⟨r30, hr30⟩ : ∃ r30, r30 = x % 30 := ⟨_, rfl⟩
              obtain ⟨d30, hd30⟩ : ∃ d30, d30 = x / 30 := ⟨_, rfl⟩
              obtain ⟨m300, hm300⟩ : ∃ m300, m300 = d30 % 300 := ⟨_, rfl⟩
              have h30 : (x : Int).tmod 30 = (r30 : Int) := by rw [Int.tmod_eq_emod_of_nonneg (by omega)]; omega
              have h31 : (x : Int).tdiv 30 = (d30 : Int) := by rw [Int.tdiv_eq_ediv_of_nonneg (by omega)]; omega
              have h32 : (d30 : Int).tmod 300 = (m300 : Int) := by rw [Int.tmod_eq_emod_of_nonneg (by omega)]; omega
              have hr1 : r30 < 30 := by omega
              have hd1 : d30 ≤ 40000 := by omega
              have hm1 : m300 < 300 := by omega
              rw [← hr30, ← hd30, ← hm300] at HCR
              clear hr30 hd30 hm300 HS
              go_wp2_with fail
              refine HCR.out.mono ?_
              rintro e w5 ⟨J5, rfl, hJ5, h5⟩
              have HC2 := Lib.hid h5
              clear HCR h5
              go_wp2_with fail
              refine HC2.out.mono ?_
              rintro e w5' ⟨rfl, hJ5K, h5⟩
              have HJ5 := Lib.hid hJ5K
              have HS5 := Lib.hid h5
              clear HC2 h5 hJ5K hJ5
              have HM := Lib.hid (both_m HJ5.out HS5.out)
              clear HS5 h30 h31 h32
              go_wp2_with fail
              refine HM.out.mono ?_
              rintro e w6 ⟨o1, u1, J1, rfl, ho1, hJ1, hu1, h6⟩
              have HRO := Lib.hid (both_r HJ5.out hJ1 h6 (i + 1))
              have HO1 := Lib.hid (And.intro ho1 hu1)
              clear HM h6 hJ1 ho1 hu1
              go_wp2_with fail
              refine HRO.out.mono ?_
              rintro e w7 ⟨o2, u2, J2, rfl, ho2, hJ2, hu2, hJK, h7⟩
              have HO2 := Lib.hid (show o1.isSome = o2.isSome by rw [ho2, HO1.out.1])
              have HJK := Lib.hid hJK
              have H7 := Lib.hid h7
              obtain ⟨e1, he1⟩ : ∃ e1, e1 = (openJ (crashD s [(r30 : Int)] ((m300 : Int) - 100)) 2).1 := ⟨_, rfl⟩
              rw [← he1]
              clear HRO ho2 hJK h7 hu2 hJ2 HO1 he1
              go_wp2_with fail
              go_meet
              exact ⟨_, _, o1, o2, J2, e1, rfl, rfl, rfl, rfl, HO2, HJK, H7⟩
            · have b2 : ((c : Int) == 2) = false := by simp; omega
              by_cases c3 : c = 3
              · subst c3
                clear c0 c1 c2
                have HM := Lib.hid (both_m HJ.out HS.out)
                clear HS
                go_wp2_with fail
                refine HM.out.mono ?_
                rintro e w6 ⟨o1, u1, J1, rfl, ho1, hJ1, hu1, h6⟩
                have HRO := Lib.hid (both_r HJ.out hJ1 h6 (i + 1))
                have HO1 := Lib.hid (And.intro ho1 hu1)
                clear HM h6 hJ1 ho1 hu1
                go_wp2_with fail
                refine HRO.out.mono ?_
                rintro e w7 ⟨o2, u2, J2, rfl, ho2, hJ2, hu2, hJK, h7⟩
                have HO2 := Lib.hid (show o1.isSome = o2.isSome by rw [ho2, HO1.out.1])
                have HJK := Lib.hid hJK
                have H7 := Lib.hid h7
                have hl1 := (rBytes.slice 1).mono hJ2 HO1.out.2
                have HSL := Lib.hid (lists_kn u1 u2 (openJ s 2).2.2 (A := sep (isDisk p (openJ s 2).2.1) (sep (isRD pr (openJ s 2).2.1) (sep (logO p (recs (openJ s 2)) o1) (sep (rlogO pr (recs (openJ s 2)) o2) emp)))) (show Sat w w7 (sep (kn J2) (sep (isDisk p (openJ s 2).2.1) (sep (isRD pr (openJ s 2).2.1) (sep (logO p (recs (openJ s 2)) o1) (sep (rlogO pr (recs (openJ s 2)) o2) emp))))) from by
                  unfold bothA at h7
                  simpa only [sep_comm, sep_lcomm, sep_assoc] using h7) hl1 hu2)
                obtain ⟨e1, he1⟩ : ∃ e1, e1 = (openJ s 2).1 := ⟨_, rfl⟩
                rw [← he1]
                clear HRO ho2 hJK h7 hu2 hJ2 HO1 he1 hl1 H7
                go_wp2_with fail
                refine HSL.out.mono ?_
                rintro e w8 ⟨rfl, h8⟩
                have H8 : Hid (Sat w w8 (sep (bothA p pr (openJ s 2).2.1 (recs (openJ s 2)) o1 o2 J2) emp)) := Lib.hid (by
                  unfold bothA
                  simpa only [sep_comm, sep_lcomm, sep_assoc] using h8)
                clear HSL h8
                go_wp2_with fail
                go_meet
                exact ⟨_, _, o1, o2, J2, e1, rfl, rfl, rfl, rfl, HO2, HJK, H8⟩
              · have b3 : ((c : Int) == 3) = false := by simp; omega
                clear c0 c1 c2 c3
                cases on with
                | false =>
                  have HJK : Hid (JOK w s L (i + 1) J) := Lib.hid ⟨HJ.out.room, by have := HJ.out.n; omega, HJ.out.le⟩
                  go_wp2_with fail
                  go_roundw
                  case rel => exact ⟨i + 1, s, L, oq, orr, J, er, by omega, rfl, rfl, rfl, rfl, by go_num, HOO, HJK, HS⟩
                  case measure => simp only [intOf]; omega
                | true =>
                  obtain ⟨q, rfl⟩ : ∃ q, oq = some q := by
                    have := HON.out
                    cases oq with
                    | none => cases this
                    | some q => exact ⟨q, rfl⟩
                  obtain ⟨r, rfl⟩ : ∃ r, orr = some r := by
                    have := HOO.out
                    cases orr with
                    | none => cases this
                    | some r => exact ⟨r, rfl⟩
                  have hS1 : Sat w wr (sep (kn J) (sep (isLog q p L) (sep (isDisk p s) (sep (isRLog r pr L) (sep (isRD pr s) emp))))) := by
                    have h1 : Sat w wr (sep (bothA p pr s L (some q) (some r) J) emp) := HS.out
                    unfold bothA at h1
                    rw [show logO p L (some q) = isLog q p L from rfl, show rlogO pr L (some r) = isRLog r pr L from rfl] at h1
                    simpa only [sep_comm, sep_lcomm, sep_assoc] using h1
                  obtain ⟨J5, hJ5, hri, h2⟩ := litI hS1 [(x : Int)] 3 (by simp [maxLen])
                  have HRE := Lib.hid (records30_spec _ [(x : Int)] h2 hri (by intro y hy; rw [List.mem_singleton.1 hy]; exact ⟨by omega, by omega⟩))
                  have HJ5 := Lib.hid hJ5
                  rw [show ptrO (some q) = .pointer (some ⟨q, 0, none⟩) from rfl, show ptrO (some r) = .pointer (some ⟨r, 0, none⟩) from rfl]
                  clear hS1 hJ5 hri h2 HS qL qR gL gR
                  go_wp2_with fail
                  refine HRE.out.mono ?_
                  rintro e w6 ⟨ra, rc, vs0, X, rfl, hxl, hx10, h6⟩
                  have hX1 : X.length = 1 := by rw [hxl]; rfl
                  have h7 := h6.slice_of_osl (R := rBytes) (k := 1) rfl
                  rw [hX1] at h7 ⊢
                  obtain ⟨J6, hJ6, hxx, h8⟩ := h7.learn
                  obtain ⟨gb, go, gv, rfl, hcellU, hgr⟩ := slice_elemU hxx 0 (by omega)
                  have hcell := hcellU w6 h8.ext
                  rw [Nat.add_zero] at hcell
                  obtain ⟨b, hb⟩ : ∃ b, b = X[0] := ⟨_, rfl⟩
                  have hb10 : b.length ≤ 10 := by rw [hb]; exact hx10 _ (List.getElem_mem _)
                  rw [← hb] at hgr
                  have H8 : Hid (Sat w w6.drew (sep (isLog q p L) (sep (isDisk p s) (sep (kn J6) (sep (isRLog r pr L) (sep (isRD pr s) emp)))))) := Lib.hid (by
                    have := h8.drew
                    simpa only [sep_comm, sep_lcomm, sep_assoc] using this)
                  have HJ6 := Lib.hid (Mem.le_trans HJ5.out hJ6)
                  have HGR := Lib.hid (And.intro hgr hb10)
                  clear HRE h6 hxl hx10 hX1 h7 hJ6 hxx h8 hcellU hb hgr hb10
                  go_wp2_with fail
                  have hA1 := jappend_spec q p s L gv b H8.out HGR.out.1 (by have := HGR.out.2; omega) (by have := HJ.out.n; omega)
                  have hA2 := fun w7 (h : Sat w w7 (sep (isLog q p (appendJ s L b).2.2) (sep (isDisk p (appendJ s L b).2.1) (sep (kn J6) (sep (isRLog r pr L) (sep (isRD pr s) emp)))))) =>
                    rappend_spec r pr s L gv b (A := sep (isLog q p (appendJ s L b).2.2) (sep (isDisk p (appendJ s L b).2.1) emp)) (show Sat w w7 _ from by simpa only [sep_comm, sep_lcomm, sep_assoc] using h) HGR.out.1 (by have := HGR.out.2; omega) (by have := HJ.out.n; omega)
                  have hroom := appendJ_room s L b
                  have hnn := appendJ_n s L b
                  obtain ⟨⟨e1, s1, L1⟩, ht⟩ : ∃ t, t = appendJ s L b := ⟨_, rfl⟩
                  rw [← ht] at hA1 hA2 hroom hnn
                  dsimp only at hA1 hA2 hroom hnn
                  have hlen1 : ∀ w7, Sat w w7 (sep (isLog q p L1) (sep (isDisk p s1) (sep (kn J6) (sep (isRLog r pr L1) (sep (isRD pr s1) emp))))) → _ := fun w7 h => jlen_spec q p L1 h
                  have hup1 : ∀ w7, Sat w w7 (sep (isLog q p L1) (sep (isDisk p s1) (sep (kn J6) (sep (isRLog r pr L1) (sep (isRD pr s1) emp))))) → _ := fun w7 h => jup_spec q p L1 h
                  have hcl : ∀ w7, Sat w w7 (sep (isLog q p L1) (sep (isDisk p s1) (sep (kn J6) (sep (isRLog r pr L1) (sep (isRD pr s1) emp))))) → w7.cell? ⟨r, 2, none⟩ = some (.int .i64 (L1.n : Nat)) ∧ w7.cell? ⟨r, 3, none⟩ = some (.bool L1.down) := fun w7 h => ⟨h.p3.cell 2, h.p3.cell 3⟩
                  have HJK : Hid (JOK w s1 L1 (i + 1) J6) := Lib.hid ⟨by rw [hroom]; exact HJ.out.room, by have := HJ.out.n; omega, Mem.le_trans HJ.out.le HJ6.out⟩
                  obtain ⟨n1, hn1⟩ : ∃ n1, n1 = L1.n := ⟨_, rfl⟩
                  obtain ⟨dn, hdn⟩ : ∃ dn, dn = L1.down := ⟨_, rfl⟩
                  rw [← hn1] at hlen1 hcl
                  rw [← hdn] at hup1 hcl
                  have ge : (e1 != e1) = false := by simp
                  have gn : ((n1 : Int) != (n1 : Int)) = false := by simp
                  have gd : ((!dn) == dn) = false := by cases dn <;> rfl
                  have HA1 := Lib.hid hA1
                  have HA2 := Lib.hid hA2
                  have HL1 := Lib.hid hlen1
                  have HU1 := Lib.hid hup1
                  have HCL := Lib.hid hcl
                  clear hA1 hA2 hroom hnn ht hlen1 hup1 hcl hn1 hdn H8 hcell
                  refine wp_region_canon rfl (fun w' => w'.cell? ⟨r, 2, none⟩ = some (.int .i64 (n1 : Nat)) ∧ w'.cell? ⟨r, 3, none⟩ = some (.bool dn)) [(0, .p), (1, .p), (3, .p), (4, .p), (2, .e false), (5, .e false), (6, .p), (7, .p), (8, .p), (10, .p), (11, .p), (12, .p), (13, .s), (9, .e true), (14, .p), (15, .p), (16, .p), (17, .p), (19, .p), (20, .p), (21, .p), (22, .s), (18, .e true), (23, .p), (24, .p)] (by kernel_rfl) ?_
                  (repeat (first | (refine C_p (v := ?_) rfl rfl (fun w' => ?_) ?_; rotate_left; (go_simp; with_reducible rfl); simp only [Act.put, List.setIfInBounds_toArray, List.set_cons_zero, List.set_cons_succ]) | (refine C_s (v := ?_) rfl rfl hS0 (fun w' hS => ?_) ?_; rotate_left; ((try dsimp only at hS); go_simp; with_reducible rfl); simp only [Act.put, List.setIfInBounds_toArray, List.set_cons_zero, List.set_cons_succ]) | (refine C_t (v := ?_) rfl rfl ?_ ?_; rotate_left; (go_simp; with_reducible rfl); simp only [Act.put, List.setIfInBounds_toArray, List.set_cons_zero, List.set_cons_succ]) | (refine C_po rfl rfl ?_; simp only [Act.put, List.setIfInBounds_toArray, List.set_cons_zero, List.set_cons_succ]) | (refine C_so rfl rfl hS0 ?_; simp only [Act.put, List.setIfInBounds_toArray, List.set_cons_zero, List.set_cons_succ]) | (refine C_to rfl rfl ?_; simp only [Act.put, List.setIfInBounds_toArray, List.set_cons_zero, List.set_cons_succ])))
                  (refine C_e rfl rfl (fun K hK => ?_); go_simp)
                  refine HA1.out.mono ?_
                  rintro e w7 ⟨rfl, h9⟩
                  have HB2 := Lib.hid (HA2.out w7 h9)
                  clear HA1 HA2 h9
                  (refine hK _ _ (fun h => by cases h) ?_; clear hK K; (try simp only [Act.put, List.setIfInBounds_toArray, List.set_cons_zero, List.set_cons_succ]))
                  (repeat (first | (refine C_p (v := ?_) rfl rfl (fun w' => ?_) ?_; rotate_left; (go_simp; with_reducible rfl); simp only [Act.put, List.setIfInBounds_toArray, List.set_cons_zero, List.set_cons_succ]) | (refine C_s (v := ?_) rfl rfl hS0 (fun w' hS => ?_) ?_; rotate_left; ((try dsimp only at hS); go_simp; with_reducible rfl); simp only [Act.put, List.setIfInBounds_toArray, List.set_cons_zero, List.set_cons_succ]) | (refine C_t (v := ?_) rfl rfl ?_ ?_; rotate_left; (go_simp; with_reducible rfl); simp only [Act.put, List.setIfInBounds_toArray, List.set_cons_zero, List.set_cons_succ]) | (refine C_po rfl rfl ?_; simp only [Act.put, List.setIfInBounds_toArray, List.set_cons_zero, List.set_cons_succ]) | (refine C_so rfl rfl hS0 ?_; simp only [Act.put, List.setIfInBounds_toArray, List.set_cons_zero, List.set_cons_succ]) | (refine C_to rfl rfl ?_; simp only [Act.put, List.setIfInBounds_toArray, List.set_cons_zero, List.set_cons_succ])))
                  (refine C_e rfl rfl (fun K hK => ?_); go_simp)
                  refine HB2.out.mono ?_
                  rintro e w8 ⟨rfl, h10⟩
                  have h11 : Sat w w8 (sep (isLog q p L1) (sep (isDisk p s1) (sep (kn J6) (sep (isRLog r pr L1) (sep (isRD pr s1) emp))))) := by simpa only [sep_comm, sep_lcomm, sep_assoc] using h10
                  have hS0 := HCL.out w8 h11
                  have HB3 := Lib.hid (HL1.out w8 h11)
                  clear HB2 h10 h11
                  (refine hK _ _ (fun h => by cases h) ?_; clear hK K; (try simp only [Act.put, List.setIfInBounds_toArray, List.set_cons_zero, List.set_cons_succ]))
                  (repeat (first | (refine C_p (v := ?_) rfl rfl (fun w' => ?_) ?_; rotate_left; (go_simp; with_reducible rfl); simp only [Act.put, List.setIfInBounds_toArray, List.set_cons_zero, List.set_cons_succ]) | (refine C_s (v := ?_) rfl rfl hS0 (fun w' hS => ?_) ?_; rotate_left; ((try dsimp only at hS); go_simp; with_reducible rfl); simp only [Act.put, List.setIfInBounds_toArray, List.set_cons_zero, List.set_cons_succ]) | (refine C_t (v := ?_) rfl rfl ?_ ?_; rotate_left; (go_simp; with_reducible rfl); simp only [Act.put, List.setIfInBounds_toArray, List.set_cons_zero, List.set_cons_succ]) | (refine C_po rfl rfl ?_; simp only [Act.put, List.setIfInBounds_toArray, List.set_cons_zero, List.set_cons_succ]) | (refine C_so rfl rfl hS0 ?_; simp only [Act.put, List.setIfInBounds_toArray, List.set_cons_zero, List.set_cons_succ]) | (refine C_to rfl rfl ?_; simp only [Act.put, List.setIfInBounds_toArray, List.set_cons_zero, List.set_cons_succ])))
                  (refine C_e rfl rfl (fun K hK => ?_); go_simp)
                  refine HB3.out.mono ?_
                  rintro e w9 ⟨rfl, h12⟩
                  have hS9 := HCL.out w9 h12
                  have HB4 := Lib.hid (HU1.out w9 h12)
                  clear HB3 h12 hS0
                  (refine hK _ _ (fun _ => hS9) ?_; clear hK K; (try simp only [Act.put, List.setIfInBounds_toArray, List.set_cons_zero, List.set_cons_succ]))
                  have hS0 := hS9
                  (repeat (first | (refine C_p (v := ?_) rfl rfl (fun w' => ?_) ?_; rotate_left; (go_simp; with_reducible rfl); simp only [Act.put, List.setIfInBounds_toArray, List.set_cons_zero, List.set_cons_succ]) | (refine C_s (v := ?_) rfl rfl hS0 (fun w' hS => ?_) ?_; rotate_left; ((try dsimp only at hS); go_simp; with_reducible rfl); simp only [Act.put, List.setIfInBounds_toArray, List.set_cons_zero, List.set_cons_succ]) | (refine C_t (v := ?_) rfl rfl ?_ ?_; rotate_left; (go_simp; with_reducible rfl); simp only [Act.put, List.setIfInBounds_toArray, List.set_cons_zero, List.set_cons_succ]) | (refine C_po rfl rfl ?_; simp only [Act.put, List.setIfInBounds_toArray, List.set_cons_zero, List.set_cons_succ]) | (refine C_so rfl rfl hS0 ?_; simp only [Act.put, List.setIfInBounds_toArray, List.set_cons_zero, List.set_cons_succ]) | (refine C_to rfl rfl ?_; simp only [Act.put, List.setIfInBounds_toArray, List.set_cons_zero, List.set_cons_succ])))
                  (refine C_e rfl rfl (fun K hK => ?_); go_simp)
                  refine HB4.out.mono ?_
                  rintro e w10 ⟨rfl, h13⟩
                  have hS10 := HCL.out w10 h13
                  have H13 : Hid (Sat w w10 (sep (bothA p pr s1 L1 (some q) (some r) J6) emp)) := Lib.hid (by
                    unfold bothA
                    rw [show logO p L1 (some q) = isLog q p L1 from rfl, show rlogO pr L1 (some r) = isRLog r pr L1 from rfl]
                    simpa only [sep_comm, sep_lcomm, sep_assoc] using h13)
                  clear HB4 h13 hS0 hS9
                  (refine hK _ _ (fun _ => hS10) ?_; clear hK K; (try simp only [Act.put, List.setIfInBounds_toArray, List.set_cons_zero, List.set_cons_succ]))
                  have hS0 := hS10
                  (repeat (first | (refine C_p (v := ?_) rfl rfl (fun w' => ?_) ?_; rotate_left; (go_simp; with_reducible rfl); simp only [Act.put, List.setIfInBounds_toArray, List.set_cons_zero, List.set_cons_succ]) | (refine C_s (v := ?_) rfl rfl hS0 (fun w' hS => ?_) ?_; rotate_left; ((try dsimp only at hS); go_simp; with_reducible rfl); simp only [Act.put, List.setIfInBounds_toArray, List.set_cons_zero, List.set_cons_succ]) | (refine C_t (v := ?_) rfl rfl ?_ ?_; rotate_left; (go_simp; with_reducible rfl); simp only [Act.put, List.setIfInBounds_toArray, List.set_cons_zero, List.set_cons_succ]) | (refine C_po rfl rfl ?_; simp only [Act.put, List.setIfInBounds_toArray, List.set_cons_zero, List.set_cons_succ]) | (refine C_so rfl rfl hS0 ?_; simp only [Act.put, List.setIfInBounds_toArray, List.set_cons_zero, List.set_cons_succ]) | (refine C_to rfl rfl ?_; simp only [Act.put, List.setIfInBounds_toArray, List.set_cons_zero, List.set_cons_succ])))
                  refine C_nil ?_
                  go_wp2_with fail
                  go_meet
                  exact ⟨s1, L1, some q, some r, J6, er, rfl, rfl, rfl, rfl, Lib.hid rfl, HJK, H13⟩
      case rest =>
        obtain ⟨s', L', oq', orr', J', er', rfl, rfl, rfl, rfl, HOO', HJ', HS'⟩ := hcut
        clear HS HJ HOO qL qR gL gR HON
        have h1 : Sat w wc (sep (isDisk p s') (sep (kn J') (sep (isRD pr s') (sep (logO p L' oq') (sep (rlogO pr L' orr') emp))))) := by
          have := HS'.out
          unfold bothA at this
          simpa only [sep_comm, sep_lcomm, sep_assoc] using this
        have hrd := dread_spec p s' 2 h1
        have hrl := read_le (isDisk_ok h1) HJ'.out.room
        have HNX : ∀ J1, Mem.le J' J1 → Hid (JOK w s' L' (i + 1) J1) := fun J1 h => Lib.hid ⟨HJ'.out.room, HJ'.out.n, Mem.le_trans HJ'.out.le h⟩
        have HNX := Lib.hid HNX
        cases hoff : s'.off with
        | true =>
          have e1 : readD s' 2 = ([], 19) := by rw [readD, if_neg (by omega), if_pos hoff]
          rw [e1] at hrd
          have HRD := Lib.hid hrd
          have HOFF := Lib.hid hoff
          clear hrd hrl h1 hoff e1 HS'
          go_wp2_with fail
          refine HRD.out.mono ?_
          rintro e w6 ⟨a6, c6, rfl, h2⟩
          have h3 := h2.forget_osl
          obtain ⟨B, F, V, hok, h4⟩ := isRD_open (show Sat w w6 (sep (isRD pr s') (sep (kn J') (sep (isDisk p s') (sep (logO p L' oq') (sep (rlogO pr L' orr') emp))))) by simpa only [sep_comm, sep_lcomm, sep_assoc] using h3)
          have c3 : w6.cell? ⟨pr, 3, none⟩ = some (.bool true) := by rw [← HOFF.out]; exact h4.cell 3
          have H3 : Hid (Sat w w6 (sep (bothA p pr s' L' oq' orr' J') emp)) := Lib.hid (by
            unfold bothA
            simpa only [sep_comm, sep_lcomm, sep_assoc] using h3)
          clear HRD h2 h3 h4 hok
          go_wp2_with fail
          go_roundw
          case rel => exact ⟨i + 1, s', L', oq', orr', J', er', by omega, rfl, rfl, rfl, rfl, by go_num, HOO', HNX.out J' (Mem.le_refl _), H3⟩
          case measure => simp only [intOf]; omega
        | false =>
          have e1 : readD s' 2 = ((s'.fs 2).1, 0) := by rw [readD, if_neg (by omega), hoff, if_neg (by simp)]; rfl
          rw [e1] at hrd
          dsimp only at hrd
          obtain ⟨bs, hbs⟩ : ∃ bs, bs = (s'.fs 2).1 := ⟨_, rfl⟩
          rw [← hbs] at hrd
          obtain ⟨bl, hbl⟩ : ∃ bl, bl = bs.length := ⟨_, rfl⟩
          rw [← hbl] at hrd
          have HRD := Lib.hid hrd
          have HOFF := Lib.hid (And.intro hoff (And.intro hbs hbl))
          clear hrd hrl h1 hoff e1 HS' hbs hbl
          go_wp2_with fail
          refine HRD.out.mono ?_
          rintro e w6 ⟨a6, c6, rfl, h2⟩
          rw [HOFF.out.2.2] at h2
          obtain ⟨J1, hJ1, hr1, h3⟩ := (show Sat w w6 (sep (rBytes.is [.slice a6 bs.length c6] bs) (sep (kn J') (sep (isDisk p s') (sep (isRD pr s') (sep (logO p L' oq') (sep (rlogO pr L' orr') emp)))))) from by
            have := h2.bytes_of_osl.2
            simpa only [sep_comm, sep_lcomm, sep_assoc] using this).learn
          obtain ⟨B, F, V, hok, h4⟩ := isRD_open (show Sat w w6 (sep (isRD pr s') (sep (kn J1) (sep (isDisk p s') (sep (logO p L' oq') (sep (rlogO pr L' orr') emp))))) by simpa only [sep_comm, sep_lcomm, sep_assoc] using h3)
          obtain ⟨ba, bc, hV, -, h5⟩ := fokr_at h4.p3 (j := 2) (by omega)
          rw [← HOFF.out.2.1] at hV h5
          obtain ⟨J2, hJ2, hr2, h6⟩ := (show Sat w w6 (sep (rBytes.is [.slice ba bs.length bc] bs) (sep (kn J1) (sep (blk pr (.cells (rdC B F s') 50 (0, 0))) (sep (blk B (.cells (rowC V) 39 (0, 0))) (sep (blk F (.cells (rowC (firmV s'.fs)) 3 (0, 0))) (sep (fokr V s'.fs) (sep (isDisk p s') (sep (logO p L' oq') (sep (rlogO pr L' orr') emp))))))))) from by
            simpa only [sep_comm, sep_lcomm, sep_assoc] using h5).learn
          rw [← HOFF.out.2.2] at hr1 hr2 hV
          have c1 : w6.cell? ⟨pr, 1, none⟩ = some (.slice (some ⟨B, 0, none⟩) 64 64) := h6.p1.cell 1
          have b2 : w6.cell? ⟨B, 2, none⟩ = some (.slice ba bl bc) := by rw [h6.p2.cell 2, rowC_get _ (by omega), hV]
          have HSB := Lib.hid (sameb_kn (.slice a6 bl c6) (.slice ba bl bc) bs h6 (rBytes.mono hJ2 hr1) hr2)
          have HJ2 := Lib.hid (Mem.le_trans hJ1 hJ2)
          have HOK := Lib.hid hok
          clear HRD h2 h3 h4 h5 h6 hr1 hr2 hJ1 hJ2 hV hok
          go_wp2_with fail
          refine HSB.out.mono ?_
          rintro e w7 ⟨rfl, h7⟩
          have c3 : w7.cell? ⟨pr, 3, none⟩ = some (.bool false) := by rw [← HOFF.out.1]; exact h7.p1.cell 3
          have h8 := isRD_mk HOK.out (show Sat w w7 (sep (blk pr (.cells (rdC B F s') 50 (0, 0))) (sep (blk B (.cells (rowC V) 39 (0, 0))) (sep (blk F (.cells (rowC (firmV s'.fs)) 3 (0, 0))) (sep (fokr V s'.fs) (sep (kn J2) (sep (isDisk p s') (sep (logO p L' oq') (sep (rlogO pr L' orr') emp)))))))) by simpa only [sep_comm, sep_lcomm, sep_assoc] using h7)
          have H8 : Hid (Sat w w7 (sep (bothA p pr s' L' oq' orr' J2) emp)) := Lib.hid (by
            unfold bothA
            simpa only [sep_comm, sep_lcomm, sep_assoc] using h8)
          clear HSB h7 h8 c1 b2
          go_wp2_with fail
          go_roundw
          case rel => exact ⟨i + 1, s', L', oq', orr', J2, er', by omega, rfl, rfl, rfl, rfl, by go_num, HOO', HNX.out J2 HJ2.out, H8⟩
          case measure => simp only [intOf]; omega
    · have hS1 : Sat w wr (sep (kn J) (sep (isDisk p s) (sep (isRD pr s) (sep (logO p L oq) (sep (rlogO pr L orr) emp))))) := by
        have := HS.out
        unfold bothA at this
        simpa only [sep_comm, sep_lcomm, sep_assoc] using this
      have HLI := Lib.hid (lives30_spec hS1)
      have gee : (er == er) = true := by simp
      clear hS1 HS
      by_cases hi1 : i < len1
      · have g1 : (i : Int) < (len1 : Int) := by omega
        have g2 : ¬ (i : Int) < 14 := by omega
        clear hlt
        go_wp2_with fail
        refine HLI.out.mono ?_
        rintro e w21 ⟨rfl, h27⟩
        go_wp2_with fail
        go_ret
        exact ⟨rfl, h27.below⟩
      · have g1 : ¬ (i : Int) < (len1 : Int) := by omega
        clear hlt
        go_wp2_with fail
        refine HLI.out.mono ?_
        rintro e w21 ⟨rfl, h27⟩
        go_wp2_with fail
        go_ret
        exact ⟨rfl, h27.below⟩
end Go.Proofs.YtdaknmcmjnbfeaaGreat
