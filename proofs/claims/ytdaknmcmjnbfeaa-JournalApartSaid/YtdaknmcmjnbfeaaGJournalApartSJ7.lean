/- The reference's Scan; SameLists. -/
import Derived.Test.YtdaknmcmjnbfeaaGJournalApartSJ6
namespace Go.Proofs.Ytdaknmcmjnbfeaa
open Go.RowKit PA
structure CameR (l : List UInt8) (xs : List (List UInt8)) (k : Nat) : Prop where
  recs : (scanJ 0 l).1 = xs ++ (scanJ xs.length (l.drop k)).1
  len : (scanJ 0 l).2 = k + (scanJ xs.length (l.drop k)).2
  le : k ≤ l.length
  num : xs.length ≤ k
theorem CameR.start (l : List UInt8) : CameR l [] 0 := ⟨by simp, by simp, Nat.zero_le _, Nat.le_refl _⟩
theorem CameR.none {l : List UInt8} {xs : List (List UInt8)} {k : Nat} (h : CameR l xs k) (hn : ¬ (l.drop k ≠ [] ∧ firstB xs.length (l.drop k) = true)) : xs = (scanJ 0 l).1 ∧ k = (scanJ 0 l).2 := by
  have := scanJ_no (i := xs.length) (l := l.drop k) (fun h => hn ⟨h.1, decide_eq_true h.2⟩)
  rw [h.recs, h.len, this]
  exact ⟨(List.append_nil _).symm, rfl⟩
theorem CameR.more {l : List UInt8} {xs : List (List UInt8)} {k : Nat} (h : CameR l xs k) (h0 : l.drop k ≠ []) (hn : firstB xs.length (l.drop k) = true) :
    CameR l (xs ++ [recJ (l.drop k)]) (k + (frameJ xs.length (recJ (l.drop k))).length) := by
  have hn := of_decide_eq_true hn
  have h1 := h.recs
  have h2 := h.len
  have hl := (frameJ_length xs.length (recJ (l.drop k))).1
  have ht := congrArg List.length hn
  rw [List.length_take, List.length_drop] at ht
  rw [scanJ_go ⟨h0, hn⟩] at h1 h2
  dsimp only at h1 h2
  rw [List.drop_drop] at h1 h2
  refine ⟨?_, ?_, ?_, ?_⟩
  · rw [h1, List.append_assoc, List.length_append]; rfl
  · rw [h2, List.length_append, Nat.add_assoc]; rfl
  · have := h.le; omega
  · rw [List.length_append, List.length_singleton]; have := h.num; omega
set_option maxRecDepth 100000 in
set_option maxHeartbeats 4000000 in
theorem rscan_spec {W w : World} {A : Assn} {I : Mem} (v : Value) (l : List UInt8) (h : Sat W w (sep (kn I) A)) (hv : rBytes.rel I [v] l) (hl : l.length ≤ 1000000) :
    Calls Try.prog 16 #[v] w fun e w' => ∃ u, e = .returned (.tuple #[u, .int .i64 ((scanJ 0 l).2 : Nat)]) ∧ Sat W w' (sep ((rBytes.slice 1).is [u] (scanJ 0 l).1) (sep (kn I) A)) := by
  obtain ⟨av, cv, rfl, hsw, -⟩ := bytes_rel.1 hv
  obtain ⟨nl, hnl⟩ : ∃ nl, nl = l.length := ⟨_, rfl⟩
  have hlc : nl ≤ cv := by rw [hnl]; exact hsw.1
  have hcap : cv ≤ 9223372036854775807 := hsw.2.1
  rw [← hnl] at hv hl ⊢
  have h0 : Sat W w (sep (osl 23 1 none 0 0 []) (sep ((rBytes.rows 1).is [] []) (sep (kn I) A))) :=
    (Sat.startPers W (fun I => (rBytes.rows 1).rel I [] []) (fun _ _ hl h => (rBytes.rows 1).mono hl h) h ⟨[], rfl, trivial⟩).osl_nil 23 1
  have HNL := Lib.hid hnl
  have HV := Lib.hid hv
  clear hnl hv h hsw
  go_enter Try.func16, Try.ntmps16
  go_wp2_with fail
  go_loopw [4, 5] (fun ov nv wr => ∃ (k : Nat) (xs : List (List UInt8)) (a : Option Addr) (c : Nat) (vs : List Value), ov = .slice a xs.length c ∧ nv = .int .i64 (k : Nat) ∧ CameR l xs k ∧ Sat W wr (sep (osl 23 1 a xs.length c vs) (sep ((rBytes.rows 1).is vs xs) (sep (kn I) A)))) (fun _ nv _ => nl - (intOf nv).toNat)
  case atStart => exact ⟨0, [], none, 0, [], rfl, rfl, CameR.start l, h0⟩
  case round =>
    clear h0
    obtain ⟨k, xs, a, c, vs, rfl, rfl, hcame, hS⟩ := hrel
    obtain ⟨i, hi⟩ : ∃ i, i = xs.length := ⟨_, rfl⟩
    have hik : i ≤ k := by rw [hi]; exact hcame.num
    have hkl : k ≤ nl := by rw [HNL.out]; exact hcame.le
    rw [← hi] at hS ⊢
    have HI := Lib.hid hi
    have HC := Lib.hid hcame
    clear hi hcame
    by_cases hlt : k < nl
    · have hltI : (k : Int) < nl := by omega
      obtain ⟨bb, oo, rfl⟩ : ∃ bb oo, av = some ⟨bb, oo, none⟩ := by
        obtain ⟨a', c', e, _, hcs⟩ := bytes_rel.1 HV.out
        cases e
        obtain ⟨b, o, e, _⟩ := cells_ext hcs (fun e => by have := congrArg List.length e; rw [List.length_map, List.length_nil, ← HNL.out] at this; omega)
        exact ⟨b, o, e⟩
      have hrel := rel_drop k HNL.out hkl HV.out
      obtain ⟨lk, hlk⟩ : ∃ lk, lk = l.drop k := ⟨_, rfl⟩
      rw [← hlk] at hrel
      have hlkl : lk.length ≤ 1000000 := by rw [hlk, List.length_drop, ← HNL.out]; omega
      have hne : l.drop k ≠ [] := fun e => by
        have := congrArg List.length e
        rw [List.length_drop, List.length_nil, ← HNL.out] at this
        omega
      have h2 := hS.p2
      have HR := Lib.hid hrel
      have HLK := Lib.hid hlk
      have HKL := Lib.hid hlkl
      have HNE := Lib.hid hne
      clear hrel hlk hlkl hS hne
      go_wp2_with fail
      refine (first_spec (i : Int) _ lk h2 HR.out ⟨by omega, by omega⟩ HKL.out).mono ?_
      rintro e w2 ⟨u, t, rfl, ht, h3⟩
      have HT := Lib.hid ht
      clear h2 ht
      cases t with
      | false =>
        go_wp2_with fail
        go_ret2
        obtain ⟨e1, e2⟩ := HC.out.none (by
          rintro ⟨-, h⟩
          rw [← HI.out, ← HLK.out, ← HT.out] at h
          cases h)
        refine ⟨.slice a i c, by rw [← e2]; rfl, ?_⟩
        have h9 := (show Sat W w2 (sep (osl 23 1 a i c vs) (sep ((rBytes.rows 1).is vs xs) (sep (kn I) A))) by
          have := h3.drop
          simpa only [sep_comm, sep_lcomm, sep_assoc] using this).slice_of_osl (R := rBytes) (k := 1) HI.out
        rw [e1] at h9
        exact h9
      | true =>
        rw [if_pos rfl] at h3
        obtain ⟨rk, hrk⟩ : ∃ rk, rk = recJ lk := ⟨_, rfl⟩
        rw [← hrk] at h3
        have hrkl : rk.length ≤ 1000000 := by rw [hrk]; have := recJ_length lk; have := HKL.out; omega
        obtain ⟨J, hJ, hx, h4⟩ := h3.learn
        obtain ⟨au, cu, rfl, -⟩ := sliceTo_rel hx
        have HRK := Lib.hid hrk
        have HX := Lib.hid hx
        have HJ := Lib.hid hJ
        obtain ⟨rl, hrl⟩ : ∃ rl, rl = rk.length := ⟨_, rfl⟩
        rw [← hrl] at HX ⊢
        have HRL := Lib.hid hrl
        clear h3 hrk hx hJ hrl
        go_wp2_with fail
        refine (rframe_spec (i : Int) _ rk h4 HX.out ⟨by omega, by omega⟩ hrkl).mono ?_
        rintro e w3 ⟨fa, fc, rfl, h5⟩
        obtain ⟨fl, hfl⟩ : ∃ fl, fl = (frameJ i rk).length := ⟨_, rfl⟩
        have hfl2 : fl ≤ 1000040 := by rw [hfl]; have := frameJ_le i rk (by omega) (by omega) (by omega); omega
        have h6 : Sat W w3 (sep (osl 23 1 a i c vs) _) := h5.forget_osl.p1
        have h7 := (h6.alloc (.cells #[.slice au rl cu] 23)).p1
        rw [← hfl]
        have HFL := Lib.hid hfl
        obtain ⟨m, hm⟩ : ∃ m, m = k + fl := ⟨_, rfl⟩
        have hmI : (k : Int) + (fl : Int) = (m : Int) := by omega
        have HM := Lib.hid hm
        clear h4 h5 hfl hm
        go_wp2_with (at_builtin; refine wpl_append_osl rfl (.tmp 30) (.tmp 32) 27 rfl 23 1 24 (.slice none 0 0) Try.underlying27 infoBytesJ rfl rfl h7 rfl [.slice au rl cu] rfl (by simp) (by intro b hb; cases hb; exact new_src _ [_] _) (by simp [Value.oneCell']) (by omega) (by unfold maxLen; omega) ?_)
        intro a9 c9 w9 h9
        clear h6 h7
        go_wp2_with fail
        refine ⟨⟨m, xs ++ [rk], a9, c9, vs ++ [.slice au rl cu], ?_, rfl, ?_, ?_⟩, ?_⟩
        · rw [List.length_append, ← HI.out]; rfl
        · have := HC.out.more HNE.out (by rw [← HI.out, ← HLK.out]; exact HT.out.symm)
          rw [← HLK.out, ← HRK.out, ← HI.out, ← HFL.out, ← HM.out] at this
          exact this
        · have e : (xs ++ [rk]).length = i + 1 := by rw [List.length_append, ← HI.out]; rfl
          rw [e]
          have h10 : Sat W w9 (sep (rBytes.is [.slice au rl cu] rk) _) := h9.p2.tell HX.out
          have h11 : Sat W w9 (sep ((rBytes.rows 1).is vs xs) (sep (rBytes.is [.slice au rl cu] rk) (sep (osl 23 1 a9 (i + 1) c9 (vs ++ [.slice au rl cu])) (sep (kn J) (sep A (blk w3.heap.size (.cells #[.slice au rl cu] 23))))))) := by
            simpa only [sep_comm, sep_lcomm, sep_assoc] using h10
          have h12 : Sat W w9 (sep (kn J) (sep (blk w3.heap.size (.cells #[.slice au rl cu] 23)) (sep ((rBytes.rows 1).is (vs ++ [.slice au rl cu]) (xs ++ [rk])) (sep (osl 23 1 a9 (i + 1) c9 (vs ++ [.slice au rl cu])) A)))) := by
            have := h11.snoc rfl
            simpa only [sep_comm, sep_lcomm, sep_assoc] using this
          have h13 := (h12.kn_mono HJ.out).p1.drop
          simpa only [sep_comm, sep_lcomm, sep_assoc] using h13
        · simp only [intOf]; have := HM.out; have := (frameJ_length i rk).1; rw [← HFL.out] at this; omega
    · have hge : ¬ (k : Int) < nl := by omega
      go_wp2_with fail
      go_ret2
      obtain ⟨e1, e2⟩ := HC.out.none (by
        rintro ⟨h, -⟩
        exact h (List.drop_eq_nil_of_le (by rw [← HNL.out]; omega)))
      refine ⟨.slice a i c, by rw [← e2]; rfl, ?_⟩
      have h9 := hS.slice_of_osl (R := rBytes) (k := 1) HI.out
      rw [e1] at h9
      exact h9
end Go.Proofs.Ytdaknmcmjnbfeaa
