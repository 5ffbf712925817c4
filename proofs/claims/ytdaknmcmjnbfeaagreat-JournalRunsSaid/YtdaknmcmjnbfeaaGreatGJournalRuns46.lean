/- JournalFull. -/
import Derived.Test.YtdaknmcmjnbfeaaGreatGJournalRuns45
import Derived.Test.YtdaknmcmjnbfeaaGreatGJournalRuns14
namespace Go.Proofs.YtdaknmcmjnbfeaaGreat
open Go.RowKit PA
/-- A disk that holds one log, all of it durable. -/
def fullD (k : Nat) (K : List (List UInt8)) : DSt := ⟨k, dset noFiles 63 (framesJ 0 K, (framesJ 0 K).length), false, none⟩
theorem full_used (k : Nat) (K : List (List UInt8)) : (fullD k K).used = (framesJ 0 K).length := by
  have h := usedF_put (fs := noFiles) (n := 63) (x := (framesJ 0 K, (framesJ 0 K).length)) (by omega)
  have h0 : usedF noFiles = 0 := by decide
  rw [h0] at h
  have h2 : (noFiles 63).1.length = 0 := rfl
  rw [h2, Nat.add_zero, Nat.zero_add] at h
  exact h
theorem newD_full (k : Nat) : (newD k).hard = fullD k [] := by
  unfold newD DSt.hard fullD
  congr 1
  funext j
  unfold dset
  split
  · rfl
  · rfl
theorem full_hard (k : Nat) (K : List (List UInt8)) : (fullD k K).hard = fullD k K := by
  unfold fullD DSt.hard
  congr 1
  funext j
  dsimp only
  unfold dset
  split
  · rfl
  · rfl
theorem full_sync (k : Nat) (K : List (List UInt8)) : syncD (fullD k K) = (0, fullD k K) := by
  have : syncD (fullD k K) = (0, (fullD k K).hard) := rfl
  rw [this, full_hard]
theorem full_at (k : Nat) (K : List (List UInt8)) : (fullD k K).fs 63 = (framesJ 0 K, (framesJ 0 K).length) := by
  unfold fullD
  dsimp only
  unfold dset
  exact if_pos rfl
theorem full_append (k : Nat) (K : List (List UInt8)) (x : List UInt8) (hx : x.length ≤ 65536) :
    appendJ (fullD k K) ⟨63, K.length, false⟩ x = if k < (framesJ 0 K).length + (frameJ K.length x).length then (18, fullD k K, ⟨63, K.length, false⟩) else (0, fullD k (K ++ [x]), ⟨63, K.length + 1, false⟩) := by
  obtain ⟨fr, hfr⟩ : ∃ fr, fr = frameJ K.length x := ⟨_, rfl⟩
  have happ : appendD (fullD k K) ((63 : Nat) : Int) fr = if k < (framesJ 0 K).length + fr.length then (18, fullD k K) else (0, (fullD k K).app 63 fr) := by
    rw [appendD, if_neg (by omega), full_used]
    rfl
  rw [appendJ, if_neg (by omega)]
  dsimp only
  rw [if_neg (by simp), ← hfr, happ]
  split
  · rename_i h
    rw [if_pos (by simp)]
    rfl
  · rename_i h
    rw [if_neg (by simp)]
    have hs : syncD ((fullD k K).app 63 fr) = (0, ((fullD k K).app 63 fr).hard) := rfl
    have he : ((fullD k K).app 63 fr).hard = fullD k (K ++ [x]) := by
      have e1 : framesJ 0 (K ++ [x]) = framesJ 0 K ++ fr := by
        rw [framesJ_snoc, Nat.zero_add, hfr]; rfl
      have e2 : (fullD k K).app 63 fr = ⟨k, dset (dset noFiles 63 (framesJ 0 K, (framesJ 0 K).length)) 63 (framesJ 0 K ++ fr, (framesJ 0 K).length), false, none⟩ := by
        rw [DSt.app, full_at]; rfl
      rw [e2]
      unfold DSt.hard fullD
      rw [e1]
      congr 1
      funext j
      dsimp only
      unfold dset
      split
      · rfl
      · rfl
    rw [hs]
    dsimp only
    rw [he]
    rfl
theorem full_read (k : Nat) (K : List (List UInt8)) : readD (fullD k K) 63 = (framesJ 0 K, 0) := by
  have h : readD (fullD k K) ((63 : Nat) : Int) = (((fullD k K).fs 63).1, 0) := by
    rw [readD, if_neg (by omega)]
    rfl
  rw [full_at] at h
  exact h
theorem full_open (k : Nat) (K : List (List UInt8)) (h1 : K.length ≤ 1000) (h2 : (framesJ 0 K).length ≤ 1000000) : openJ (fullD k K) 63 = (0, fullD k K, K) := by
  have hs := scanJ_frames K 0 [] (by omega) (by omega)
  rw [List.append_nil, scanJ_short _ [] (by simp)] at hs
  dsimp only at hs
  rw [List.append_nil, Nat.add_zero] at hs
  rw [openJ, full_read, hs]
  dsimp only
  rw [if_neg (by simp), cutTo, if_neg (by omega), openT, full_sync]
  simp
theorem full_open64 (k : Nat) (K : List (List UInt8)) : openJ (fullD k K) 64 = (1, fullD k K, []) := by
  have h : readD (fullD k K) 64 = ([], 1) := by rw [readD, if_pos (by omega)]
  rw [openJ, h]
  simp
theorem fresh_open (k : Nat) : openJ (newD k) 63 = (0, fullD k [], []) := by
  have h : readD (newD k) 63 = ([], 0) := by
    rw [readD, if_neg (by omega)]
    rfl
  have hs : syncD (newD k) = (0, fullD k []) := by
    have : syncD (newD k) = (0, (newD k).hard) := rfl
    rw [this, newD_full]
  rw [openJ, h]
  dsimp only
  rw [if_neg (by simp), scanJ_short 0 [] (by simp), cutTo, if_neg (by simp), openT, hs]
  simp
theorem fresh_spec {W w : World} {A : Assn} (room : Nat) (h : Sat W w A) (hr : room ≤ 16777216) :
    Calls Tryz.prog 5 #[.int .i64 (room : Nat)] w fun e w' => ∃ p, e = .returned (.pointer (some ⟨p, 0, none⟩)) ∧ Sat W w' (sep (isDisk p (newD room)) A) := by
  go_enter Tryz.func5, Tryz.ntmps5
  go_wp2_with fail
  refine (dnew_ok room h hr).mono ?_
  rintro e w2 ⟨p, rfl, h2⟩
  go_wp2_with fail
  go_ret
  exact ⟨p, rfl, h2⟩
end Go.Proofs.YtdaknmcmjnbfeaaGreat
/- A disk with one file, in plain; the plan. -/
namespace PA
open Go
theorem asc_uniqueN {l m : List Nat} (h1 : l.Pairwise (· < ·)) (h2 : m.Pairwise (· < ·)) (h : ∀ k, k ∈ l ↔ k ∈ m) : l = m := by
  have e := asc_unique (l := l.map fun j : Nat => (j : Int)) (m := m.map fun j : Nat => (j : Int)) (by rw [List.pairwise_map]; exact h1.imp fun h => by omega) (by rw [List.pairwise_map]; exact h2.imp fun h => by omega) (fun k => by
    simp only [List.mem_map]
    constructor
    · rintro ⟨a, ha, rfl⟩; exact ⟨a, (h a).1 ha, rfl⟩
    · rintro ⟨a, ha, rfl⟩; exact ⟨a, (h a).2 ha, rfl⟩)
  have hinj : Function.Injective (fun j : Nat => (j : Int)) := fun a b hab => by have : (a : Int) = (b : Int) := hab; omega
  exact (List.map_inj_right hinj).1 e
theorem filesD_one {n : Nat} (hn : n < 64) {x : File} (hx : x.1 ≠ []) : filesD (dset noFiles n x) = [n] := by
  refine asc_uniqueN (filesD_sorted _) (by simp) fun k => ?_
  rw [mem_filesD, List.mem_singleton]
  constructor
  · rintro ⟨-, h⟩
    by_cases e : k = n
    · exact e
    · exact absurd (by simp [dset, e, noFiles]) h
  · rintro rfl
    exact ⟨hn, by simpa [dset] using hx⟩
theorem filesD_no {n d : Nat} : filesD (dset noFiles n ([], d)) = [] := by
  refine List.eq_nil_iff_forall_not_mem.2 fun k hk => ?_
  have := (mem_filesD.1 hk).2
  by_cases e : k = n
  · exact this (by simp [dset, e])
  · exact this (by simp [dset, e, noFiles])
/-- What a crash leaves of the one file. -/
def crash1 (bs : List UInt8) (d : Nat) (keep : List Int) (flip : Int) : List UInt8 :=
  if 0 ≤ flip ∧ 0 < keptD (bs, d) keep 0 then (bs.take (d + keptD (bs, d) keep 0)).modify (d + flip.toNat % (8 * keptD (bs, d) keep 0) / 8) fun x => flipB x (flip.toNat % (8 * keptD (bs, d) keep 0) % 8)
  else bs.take (d + keptD (bs, d) keep 0)
theorem dset_dset (fs : Nat → File) (n : Nat) (x y : File) : dset (dset fs n x) n y = dset fs n y := by
  funext j; unfold dset; split <;> rfl
theorem hard_one {n : Nat} {x : File} : (fun j => ((dset noFiles n x j).1, (dset noFiles n x j).1.length)) = dset noFiles n (x.1, x.1.length) := by
  funext j; unfold dset; split <;> rfl
theorem crash_one {s : DSt} {n d : Nat} {bs : List UInt8} (hn : n < 64) (hs : s.fs = dset noFiles n (bs, d)) (hd : d ≤ bs.length) (keep : List Int) (flip : Int) :
    crashD s keep flip = { s with fs := dset noFiles n (crash1 bs d keep flip, (crash1 bs d keep flip).length), off := false, plan := none } := by
  have key : (fun j => ((flipL (cutD s keep).fs (looseD s keep) flip j).1, (flipL (cutD s keep).fs (looseD s keep) flip j).1.length)) = dset noFiles n (crash1 bs d keep flip, (crash1 bs d keep flip).length) := by
    by_cases hb : bs = []
    · subst hb
      have hf : filesD s.fs = [] := by rw [hs]; exact filesD_no
      have hk : keptD (([] : List UInt8), d) keep 0 = 0 := by have := keptD_le (([] : List UInt8), d) keep 0; simpa using this
      have hl : looseD s keep = [] := by rw [looseD, hf]; rfl
      have hc : (cutD s keep).fs = s.fs := by rw [cutD, hf]; rfl
      have h1 : crash1 [] d keep flip = [] := by rw [crash1, hk, if_neg (by omega)]; simp
      rw [hl, flipL_no (by simp), hc, hs, hard_one, h1]
    · have hf : filesD s.fs = [n] := by rw [hs]; exact filesD_one hn hb
      have hfn : s.fs n = (bs, d) := by rw [hs]; simp [dset]
      have hl : looseD s keep = (List.range (keptD (bs, d) keep 0)).map fun j => (n, d + j) := by
        rw [looseD, hf]
        show looseN s.fs [n] keep 1 = _
        rw [looseN_some (n := n) rfl, hfn]; rfl
      have hc : (cutD s keep).fs = dset noFiles n (bs.take (d + keptD (bs, d) keep 0), d) := by
        rw [cutD, hf]
        show cutN s.fs [n] keep 1 = _
        rw [cutN_some (n := n) rfl, hfn]
        show dset s.fs n _ = _
        rw [hs, dset_dset]; rfl
      have hll : (looseD s keep).length = keptD (bs, d) keep 0 := by rw [hl]; simp
      by_cases hfl : 0 ≤ flip ∧ 0 < keptD (bs, d) keep 0
      · have hne : looseD s keep ≠ [] := fun e => by rw [e] at hll; simp at hll; omega
        have hlt := flip_lt flip hne
        have hx : (looseD s keep)[flip.toNat % (8 * (looseD s keep).length) / 8]? = some (n, d + flip.toNat % (8 * keptD (bs, d) keep 0) / 8) := by
          rw [hll] at hlt ⊢
          rw [hl, List.getElem?_map, List.getElem?_range hlt]; rfl
        rw [flipL_some hfl.1 hne hx, hc]
        have e1 : dset noFiles n (bs.take (d + keptD (bs, d) keep 0), d) n = (bs.take (d + keptD (bs, d) keep 0), d) := by simp [dset]
        rw [e1, dset_dset, hard_one, hll, crash1, if_pos hfl]
      · have hne : ¬ (0 ≤ flip ∧ looseD s keep ≠ []) := fun h => hfl ⟨h.1, by
          have := List.length_pos_iff.2 h.2
          omega⟩
        rw [flipL_no hne, hc, hard_one, crash1, if_neg hfl]
  unfold crashD DSt.hard
  dsimp only
  rw [key]
/-! ### the plan -/
def planS (M i : Nat) (bs : List UInt8) (d : Nat) : DSt := { room := 1000, fs := dset noFiles 1 (bs, d), off := decide (M < i), plan := if i ≤ M then some (M - i) else none }
def wantP (M i : Nat) : Int := if M ≤ i then 19 else 0
theorem noFiles_used : usedF noFiles = 0 := by
  have : ∀ n, sumTo (fun _ => 0) n = 0 := fun n => by
    induction n with
    | zero => rfl
    | succ n ih => rw [sumTo, ih]
  exact this 64
theorem one_used {n : Nat} (hn : n < 64) (x : File) : usedF (dset noFiles n x) = x.1.length := by
  have := usedF_put (fs := noFiles) (n := n) (x := x) hn
  rw [noFiles_used] at this
  have h0 : (noFiles n).1.length = 0 := rfl
  omega
theorem planS_used (M i : Nat) (bs : List UInt8) (d : Nat) : (planS M i bs d).used = bs.length := one_used (by omega) _
theorem planS_step (M i : Nat) (bs : List UInt8) (d : Nat) (h : i ≤ M) : (planS M i bs d).step = (decide (i < M), planS M (i + 1) bs d) := by
  unfold DSt.step
  by_cases e : i = M
  · subst e
    have hp : (planS i i bs d).plan = some 0 := by simp [planS]
    rw [hp]
    simp [planS]
  · obtain ⟨q, hq⟩ : ∃ q, M - i = q + 1 := ⟨M - i - 1, by omega⟩
    have hp : (planS M i bs d).plan = some (q + 1) := by simp [planS, h, hq]
    rw [hp]
    have h1 : i < M := by omega
    have h2 : i + 1 ≤ M := h1
    have h3 : ¬ M < i := by omega
    have h4 : ¬ M < i + 1 := by omega
    have h5 : M - (i + 1) = q := by omega
    simp [planS, h1, h2, h3, h4, h5]
theorem planS_off (M i : Nat) (bs : List UInt8) (d : Nat) (h : M < i) : planS M (i + 1) bs d = planS M i bs d := by
  have h1 : ¬ i ≤ M := by omega
  have h2 : ¬ i + 1 ≤ M := by omega
  have h3 : M < i + 1 := by omega
  simp [planS, h, h1, h2, h3]
theorem planS_append {M i : Nat} {bs : List UInt8} {d : Nat} (hz : bs.length ≤ 900) : appendD (planS M i bs d) 1 [5] = (wantP M i, planS M (i + 1) (if i ≤ M then bs ++ [5] else bs) d) := by
  rw [appendD, if_neg (by omega)]
  by_cases h : M < i
  · have ho : (planS M i bs d).off = true := by simp [planS, h]
    rw [ho, if_pos rfl, if_neg (by omega), planS_off M i bs d h, wantP, if_pos (by omega)]
  · have ho : (planS M i bs d).off = false := by simp [planS]; omega
    have hu := planS_used M i bs d
    have hr : (planS M i bs d).room = 1000 := rfl
    have ha : (planS M i bs d).app (1 : Int).toNat [5] = planS M i (bs ++ [5]) d := by
      show ({ planS M i bs d with fs := dset (dset noFiles 1 (bs, d)) 1 (((dset noFiles 1 (bs, d)) 1).1 ++ [5], ((dset noFiles 1 (bs, d)) 1).2) } : DSt) = _
      rw [dset_dset]
      simp [planS, dset]
    rw [ho, hu, hr, if_neg (by simp), if_neg (by simp; omega), ha, planS_step _ _ _ _ (by omega)]
    rw [if_pos (by omega : i ≤ M), wantP]
    by_cases h2 : i < M
    · simp [h2]
    · simp [h2] <;> omega
theorem planS_sync {M i : Nat} {bs : List UInt8} {d : Nat} : syncD (planS M i bs d) = (wantP M i, planS M (i + 1) bs (if i < M then bs.length else d)) := by
  rw [syncD]
  by_cases h : M < i
  · have ho : (planS M i bs d).off = true := by simp [planS, h]
    rw [ho, if_pos rfl, if_neg (by omega), planS_off M i bs d h, wantP, if_pos (by omega)]
  · have ho : (planS M i bs d).off = false := by simp [planS]; omega
    rw [ho, if_neg (by simp), planS_step _ _ _ _ (by omega), wantP]
    by_cases h2 : i < M
    · have hh : (planS M (i + 1) bs d).hard = planS M (i + 1) bs bs.length := by
        unfold DSt.hard
        show ({ planS M (i + 1) bs d with fs := fun j => ((dset noFiles 1 (bs, d) j).1, (dset noFiles 1 (bs, d) j).1.length) } : DSt) = _
        rw [hard_one]; rfl
      simp [h2, hh] <;> omega
    · simp [h2] <;> omega
theorem planS_trunc {M i z : Nat} {bs : List UInt8} {d : Nat} (hz : z ≤ bs.length) : truncD (planS M i bs d) 1 (z : Int) = (wantP M i, planS M (i + 1) (if i < M then bs.take z else bs) (if i < M then min d z else d)) := by
  have hfa : fileAt (planS M i bs d).fs 1 = (bs, d) := by simp [fileAt, planS, dset]
  have hfn : ∀ j, (planS M j bs d).fs (1 : Int).toNat = (bs, d) := fun j => by simp [planS, dset]
  rw [truncD, if_neg (by rw [hfa]; simp; omega)]
  by_cases h : M < i
  · have ho : (planS M i bs d).off = true := by simp [planS, h]
    rw [ho, if_pos rfl, if_neg (by omega), if_neg (by omega), planS_off M i bs d h, wantP, if_pos (by omega)]
  · have ho : (planS M i bs d).off = false := by simp [planS]; omega
    rw [ho, if_neg (by simp), planS_step _ _ _ _ (by omega), wantP, hfn]
    by_cases h2 : i < M
    · have hp : (planS M (i + 1) bs d).put 1 (bs.take z, min d z) = planS M (i + 1) (bs.take z) (min d z) := by
        show ({ planS M (i + 1) bs d with fs := dset (dset noFiles 1 (bs, d)) 1 (bs.take z, min d z) } : DSt) = _
        rw [dset_dset]; rfl
      simp [h2, hp] <;> omega
    · simp [h2] <;> omega
theorem newD_plan (M : Nat) : armD (newD 1000) (M : Int) = planS M 0 [] 0 := by
  have hf : noFiles = dset noFiles 1 ([], 0) := by funext j; unfold dset; split <;> rfl
  have e : armD (newD 1000) (M : Int) = ⟨1000, noFiles, false, some M⟩ := by simp [armD, newD]
  rw [e]
  unfold planS
  rw [← hf]
  simp
theorem planS_crash {M i : Nat} {bs : List UInt8} {d : Nat} (hd : d ≤ bs.length) (hz : bs.length ≤ 900) : crashD (planS M i bs d) [1000] (-1) = ⟨1000, dset noFiles 1 (bs, bs.length), false, none⟩ := by
  have hk : keptD (bs, d) [1000] 0 = bs.length - d := by simp [keptD]; omega
  have h1 : crash1 bs d [1000] (-1) = bs := by
    rw [crash1, if_neg (by omega), hk, List.take_of_length_le (by omega)]
  rw [crash_one (n := 1) (by omega) rfl hd, h1]
  rfl
end PA
/- DiskDurable in plain. No program in sight. -/
namespace PA
open Go
theorem cut_pre {fs : Nat → File} {ks : List Nat} {keep : List Int} (n i : Nat) (hd : (fs n).2 ≤ (fs n).1.length) :
    (cutN fs ks keep i n).1.take (fs n).2 = (fs n).1.take (fs n).2 ∧ (fs n).2 ≤ (cutN fs ks keep i n).1.length ∧ (cutN fs ks keep i n).1.length ≤ (fs n).1.length := by
  rcases cutN_cases (fs := fs) (ks := ks) (keep := keep) n i with e | ⟨m, hm, e⟩
  · rw [e]; exact ⟨rfl, hd, Nat.le_refl _⟩
  · rw [e, cutF_len _ _ hd hm]
    refine ⟨?_, by omega, by omega⟩
    rw [cutF, List.take_take, Nat.min_eq_left (by omega)]
theorem crash_pre {s : DSt} (h : s.ok) (keep : List Int) (flip : Int) (n : Nat) :
    ((crashD s keep flip).fs n).1.take (s.fs n).2 = (s.fs n).1.take (s.fs n).2 ∧ (s.fs n).2 ≤ ((crashD s keep flip).fs n).1.length ∧ ((crashD s keep flip).fs n).1.length ≤ (s.fs n).1.length := by
  have hc := cut_pre (ks := filesD s.fs) (keep := keep) n (filesD s.fs).length (h.dur n)
  show (flipL (cutN s.fs (filesD s.fs) keep (filesD s.fs).length) (looseN s.fs (filesD s.fs) keep (filesD s.fs).length) flip n).1.take _ = _ ∧ _ ≤ (flipL (cutN s.fs (filesD s.fs) keep (filesD s.fs).length) (looseN s.fs (filesD s.fs) keep (filesD s.fs).length) flip n).1.length ∧ (flipL (cutN s.fs (filesD s.fs) keep (filesD s.fs).length) (looseN s.fs (filesD s.fs) keep (filesD s.fs).length) flip n).1.length ≤ _
  rw [(flipL_len _ _ _ n).1]
  refine ⟨?_, hc.2⟩
  rw [← hc.1]
  by_cases hf : 0 ≤ flip ∧ looseN s.fs (filesD s.fs) keep (filesD s.fs).length ≠ []
  · have hl := flip_lt flip hf.2
    obtain ⟨⟨m, i⟩, hx⟩ : ∃ x, (looseN s.fs (filesD s.fs) keep (filesD s.fs).length)[flip.toNat % (8 * (looseN s.fs (filesD s.fs) keep (filesD s.fs).length).length) / 8]? = some x := ⟨_, List.getElem?_eq_getElem hl⟩
    rw [flipL_some hf.1 hf.2 hx]
    by_cases e : n = m
    · subst e
      obtain ⟨j, -, -, hge, -⟩ := looseN_mem (List.mem_of_getElem? hx)
      dsimp only at hge
      simp only [dset, if_true]
      apply List.ext_getElem?
      intro k
      rw [List.getElem?_take, List.getElem?_take]
      split
      · rw [List.getElem?_modify]
        have : ¬ i = k := by omega
        simp [this]
      · rfl
    · simp [dset, e]
  · rw [flipL_no hf]
theorem crash_hard {s : DSt} (h : s.ok) (keep : List Int) (flip : Int) (n : Nat) (hd : (s.fs n).2 = (s.fs n).1.length) : ((crashD s keep flip).fs n).1 = (s.fs n).1 := by
  obtain ⟨h1, h2, h3⟩ := crash_pre h keep flip n
  rw [hd] at h1 h2
  rw [List.take_of_length_le h3, List.take_of_length_le (Nat.le_refl _)] at h1
  exact h1
/-- What grew out of the durable files f0. -/
structure Grown (f0 : Nat → List UInt8) (s : DSt) : Prop where
  off : s.off = false
  plan : s.plan = none
  fs : ∀ j, ∃ t, (s.fs j).1 = f0 j ++ t ∧ (s.fs j).2 = (f0 j).length
theorem grown_hard {s : DSt} (h1 : s.off = false) (h2 : s.plan = none) : syncD s = (0, s.hard) ∧ Grown (fun j => (s.fs j).1) s.hard := by
  constructor
  · rw [syncD, h1, DSt.step, h2]; rfl
  · exact ⟨h1, h2, fun j => ⟨[], by simp [DSt.hard], rfl⟩⟩
theorem Grown.append {f0 : Nat → List UInt8} {s : DSt} (h : Grown f0 s) (n : Int) (b : List UInt8) : Grown f0 (appendD s n b).2 := by
  unfold appendD
  split
  · exact h
  · rw [h.off]
    simp only [Bool.false_eq_true, if_false]
    split
    · exact h
    · have e : (s.app n.toNat b).step.2 = s.app n.toNat b := by
        have : (s.app n.toNat b).plan = none := h.plan
        rw [DSt.step, this]
      rw [e]
      refine ⟨h.off, h.plan, fun j => ?_⟩
      show ∃ t, (dset s.fs n.toNat ((s.fs n.toNat).1 ++ b, (s.fs n.toNat).2) j).1 = _ ∧ (dset s.fs n.toNat ((s.fs n.toNat).1 ++ b, (s.fs n.toNat).2) j).2 = _
      by_cases e : j = n.toNat
      · subst e
        obtain ⟨t, h1, h2⟩ := h.fs n.toNat
        exact ⟨t ++ b, by simp [dset, h1], by simp [dset, h2]⟩
      · simpa [dset, e] using h.fs j
/-- The whole law on one file. -/
theorem Grown.crash {f0 : Nat → List UInt8} {s : DSt} (h : Grown f0 s) (hok : s.ok) (keep : List Int) (flip : Int) (n : Nat) :
    (f0 n).length ≤ ((crashD s keep flip).fs n).1.length ∧ ((crashD s keep flip).fs n).1.take (f0 n).length = f0 n ∧ ((crashD s keep flip).fs n).1.length ≤ (s.fs n).1.length := by
  obtain ⟨t, h1, h2⟩ := h.fs n
  obtain ⟨h3, h4, h5⟩ := crash_pre hok keep flip n
  rw [h2] at h3 h4
  refine ⟨h4, ?_, h5⟩
  rw [h3, h1, List.take_append_of_le_length (Nat.le_refl _), List.take_of_length_le (Nat.le_refl _)]
theorem read_crash (s : DSt) (keep : List Int) (flip : Int) (n : Nat) (hn : n < 64) : readD (crashD s keep flip) (n : Int) = (((crashD s keep flip).fs n).1, 0) := by
  rw [readD, if_neg (by omega), if_neg (by show ¬ false = true; simp)]; rfl
end PA
