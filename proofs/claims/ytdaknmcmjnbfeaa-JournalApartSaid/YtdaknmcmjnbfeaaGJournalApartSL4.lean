/- JournalFull, the walk. -/
import Derived.Test.YtdaknmcmjnbfeaaGJournalApart38
namespace Go.Proofs.Ytdaknmcmjnbfeaa
open Go.RowKit PA
theorem infoU8L : (Try.prog.info? 5).map (fun i => (i.zero, i.size, i.bytes)) = some (some (.int .u8 0), 1, 1) := by kernel_rfl
theorem rows_snoc_rel {I : Mem} {vs : List Value} {xs : List (List UInt8)} {v : Value} {x : List UInt8} (h : (rBytes.rows 1).rel I vs xs) (hx : rBytes.rel I [v] x) : (rBytes.rows 1).rel I (vs ++ [v]) (xs ++ [x]) := rows_snoc h hx rfl
theorem slice_elemU {α : Type} {R : Rep α} {I : Mem} {a : Option Addr} {n c : Nat} {xs : List α} (h : (R.slice 1).rel I [.slice a n c] xs) (i : Nat) (hi : i < xs.length) :
    ∃ b o v, a = some ⟨b, o, none⟩ ∧ (∀ w, Ext I w → w.cell? ⟨b, o + i, none⟩ = some v) ∧ R.rel I [v] xs[i] := by
  obtain ⟨a', c', cells, e, hw, hc, css, rfl, hall⟩ := h
  simp only [List.cons.injEq, Value.slice.injEq, and_true] at e
  obtain ⟨rfl, rfl, rfl⟩ := e
  have hl := hall.length
  have hi' : i < css.length := by omega
  obtain ⟨hr, hk⟩ := hall.get i hi' hi
  obtain ⟨v, hv⟩ : ∃ v, css[i] = [v] := by
    match hcs : css[i], hk with
    | [x], _ => exact ⟨x, rfl⟩
  have hf := flatten_get (k := 1) css (fun c hc => (hall.mem c hc).choose_spec.2) i hi' 0 (by omega)
  rw [hv] at hf hr
  have hf2 : css.flatten[i]? = some v := by simpa using hf
  obtain ⟨b, o, e, h2⟩ := cells_ext hc (fun e => by rw [e] at hf2; simp at hf2)
  exact ⟨b, o, v, e, fun w he => h2 w he i v hf2, hr⟩
set_option maxRecDepth 100000 in
set_option maxHeartbeats 8000000 in
theorem journalFull_walk (a0 : Int) (a1 : Option Addr) (len1 cap1 : Nat) (z1 : List Int) (w : World)
    (w0 : (Lit.int .i64 a0).wf = true) (w1 : IsArg w a1 len1 cap1 z1) :
    Calls Try.prog 6 #[.int .i64 a0, .slice a1 len1 cap1] w fun e w' => e = .returned (.bool true) ∧ Below w.heap.size w w' := by
  obtain ⟨ns, hns, hr1, h64⟩ := argI w1
  have hn64 := i64_of_wf w0
  have h := Sat.startKn w
  have HR1 := Lib.hid hr1
  have H64 := Lib.hid h64
  have HN := Lib.hid hn64
  have H := Lib.hid h
  clear hr1 w0 w1 h64 hn64 hns h
  go_enter Try.func6, Try.ntmps6
  go_wp2_with fail
  refine (around_spec a0 120 w HN.out.1 HN.out.2 (by omega) (by omega)).mono ?_
  rintro e w' ⟨rfl, rfl⟩
  have hq := aroundI_lt a0 120 (by omega)
  obtain ⟨k, hk⟩ : ∃ k : Nat, aroundI a0 120 = (k : Int) := ⟨(aroundI a0 120).toNat, by omega⟩
  rw [hk] at hq ⊢
  have hk120 : k < 120 := by omega
  clear hq hk
  go_wp2_with fail
  refine (fresh_spec k H.out (by omega)).mono ?_
  rintro e w2 ⟨p, rfl, h2⟩
  go_wp2_with fail
  have hop := jopen_spec p (newD k) 63 h2 (by rw [readD, if_neg (by omega)]; simp [newD, noFiles])
  rw [fresh_open] at hop
  refine hop.mono ?_
  rintro e w3 ⟨hyes, -⟩
  obtain ⟨q, u, rfl, h3⟩ := hyes rfl
  dsimp only at h3
  have h4 : Sat w w3 (sep (kn (wm w)) (sep (isLog q p ⟨63, 0, false⟩) (sep (isDisk p (fullD k [])) emp))) := by
    have h5 : Sat w w3 (sep (isLog q p ⟨63, 0, false⟩) (sep ((rBytes.slice 1).is [u] []) (sep (isDisk p (fullD k [])) (sep (kn (wm w)) emp)))) := h3
    have := h5.p1.drop
    simpa only [sep_comm, sep_lcomm, sep_assoc] using this
  obtain ⟨ua, uc, rfl, -⟩ := slice_form h3.p1.pers_heap
  clear h2 hop hyes h3
  go_wp2_with fail
  refine (records30_spec _ ns h4 HR1.out H64.out).mono ?_
  rintro e w5 ⟨ra, rc, vs0, X, rfl, hxl, hx10, h5⟩
  obtain ⟨nx, hnx⟩ : ∃ nx, nx = X.length := ⟨_, rfl⟩
  have hnx6 : nx ≤ 6 := by omega
  have h6 := h5.slice_of_osl (R := rBytes) (k := 1) rfl
  rw [← hnx] at h6 ⊢
  obtain ⟨I3, hI3, hxx, h7⟩ := h6.learn
  have HX10 := Lib.hid hx10
  have HXl := Lib.hid hnx
  have HXX := Lib.hid hxx
  have HI3 := Lib.hid hI3
  have h8 := (Sat.startPers w (fun I => (rBytes.rows 1).rel I [] []) (fun _ _ hl h => (rBytes.rows 1).mono hl h) h7 ⟨[], rfl, trivial⟩).osl_nil 23 1
  clear h4 h5 h6 h7 hxl hx10 hnx hxx hI3
  go_wp2_with fail
  go_loopw [11, 12] (fun kv iv wr => ∃ (i : Nat) (K : List (List UInt8)) (a : Option Addr) (c : Nat) (vs : List Value), i ≤ nx ∧ K.length ≤ i ∧ kv = .slice a K.length c ∧ iv = .int .i64 (i : Nat) ∧ (∀ y ∈ K, y.length ≤ 10) ∧
    Sat w wr (sep (osl 23 1 a K.length c vs) (sep ((rBytes.rows 1).is vs K) (sep (kn I3) (sep (isLog q p ⟨63, K.length, false⟩) (sep (isDisk p (fullD k K)) emp)))))) (fun _ iv _ => nx - (intOf iv).toNat)
  case atStart => exact ⟨0, [], none, 0, [], Nat.zero_le _, Nat.le_refl _, rfl, rfl, fun y hy => (by cases hy), h8⟩
  case round =>
    clear h8
    obtain ⟨i, K, a, c, vs, hi, hKi, rfl, rfl, hK10, hS⟩ := hrel
    obtain ⟨m, hm⟩ : ∃ m, m = K.length := ⟨_, rfl⟩
    rw [← hm] at hS hKi ⊢
    have hF := framesJ_len K 0 (by omega) (fun y hy => by have := hK10 y hy; omega)
    obtain ⟨fl, hfl⟩ : ∃ fl, fl = (framesJ 0 K).length := ⟨_, rfl⟩
    rw [← hfl, ← hm] at hF
    have HK10 := Lib.hid hK10
    have HM := Lib.hid hm
    have HFL := Lib.hid hfl
    clear hK10 hm hfl
    by_cases hlt : i < nx
    · have g2 : (i : Int) < (nx : Int) := by omega
      have hiX : i < X.length := by have := HXl.out; omega
      have hxi := HX10.out _ (List.getElem_mem hiX)
      obtain ⟨x, hx⟩ : ∃ x, x = X[i] := ⟨_, rfl⟩
      rw [← hx] at hxi
      have h1 : Sat w wr (sep (isDisk p (fullD k K)) (sep (kn I3) (sep (isLog q p ⟨63, m, false⟩) (sep (osl 23 1 a m c vs) (sep ((rBytes.rows 1).is vs K) emp))))) := by simpa only [sep_comm, sep_lcomm, sep_assoc] using hS
      clear hS
      go_wp2_with fail
      refine (dused_spec p _ h1).mono ?_
      rintro e w6 ⟨rfl, h2⟩
      rw [full_used, ← HFL.out]
      obtain ⟨gb, go, gv, rfl, hcellU, hgr⟩ := slice_elemU HXX.out i hiX
      rw [← hx] at hgr
      obtain ⟨ga, gc, rfl, -⟩ := sliceTo_rel hgr
      obtain ⟨xl, hxl⟩ : ∃ xl, xl = x.length := ⟨_, rfl⟩
      rw [← hxl] at hgr hcellU
      have HXLN := Lib.hid hxl
      have hcell := hcellU w6 h2.p1.ext
      have HCU := Lib.hid hcellU
      have HG := Lib.hid hgr
      have HXI := Lib.hid hxi
      clear h1 hgr hxi hx hcellU hxl
      go_wp2_with fail
      refine (jframe_spec (m : Int) _ x h2.p1 HG.out ⟨by omega, by omega⟩ (by have := HXI.out; omega)).mono ?_
      rintro e w7 ⟨fa, fc, rfl, h3⟩
      obtain ⟨sz, hsz⟩ : ∃ sz, sz = (frameJ m x).length := ⟨_, rfl⟩
      have hsz50 : sz ≤ 50 := by rw [hsz]; have := frameJ_le m x (by omega) (by omega) (by have := HXI.out; omega); have := HXI.out; omega
      have h4 := h3.forget_osl
      rw [← hsz]
      have hap := full_append k K x (by have := HXI.out; omega)
      rw [← HM.out, ← HFL.out, ← hsz] at hap
      have hcell := HCU.out w7 h4.ext
      have h5 : Sat w w7 (sep (isLog q p ⟨63, m, false⟩) (sep (isDisk p (fullD k K)) (sep (kn I3) (sep (osl 23 1 a m c vs) (sep ((rBytes.rows 1).is vs K) emp))))) := by simpa only [sep_comm, sep_lcomm, sep_assoc] using h4
      have HAP := Lib.hid hap
      have HSZ := Lib.hid hsz
      clear h2 h3 h4 hap hsz
      go_wp2_with fail
      refine (jappend_spec q p _ _ _ x h5 HG.out (by have := HXI.out; omega) (by show m ≤ _; omega)).mono ?_
      rintro e w8 ⟨rfl, h6⟩
      rw [HAP.out] at h6 ⊢
      by_cases hfull : k < fl + sz
      · rw [if_pos hfull] at h6 ⊢
        dsimp only at h6 ⊢
        have g3 : (k : Int) < (fl : Int) + (sz : Int) := by omega
        have h7 : Sat w w8 (sep (isDisk p (fullD k K)) (sep (isLog q p ⟨63, m, false⟩) (sep (kn I3) (sep (osl 23 1 a m c vs) (sep ((rBytes.rows 1).is vs K) emp))))) := h6.p1
        clear h5 h6 hcell hfull
        go_wp2_with fail
        refine (dused_spec p _ h7).mono ?_
        rintro e w9 ⟨rfl, h8⟩
        rw [full_used, ← HFL.out]
        have g4 : ((fl : Int) != (fl : Int)) = false := by simp
        clear h7
        go_wp2_with fail
        refine (jlen_spec q p _ h8.p1).mono ?_
        rintro e w10 ⟨rfl, h9⟩
        have g5 : ((m : Int) != (m : Int)) = false := by simp
        clear h8
        go_wp2_with fail
        refine (jup_spec q p _ h9).mono ?_
        rintro e w11 ⟨rfl, h10⟩
        clear h9
        go_wp2_with fail
        go_roundw
        case rel =>
          refine ⟨i + 1, K, a, c, vs, by omega, by rw [← HM.out]; omega, by rw [← HM.out], by go_num, HK10.out, ?_⟩
          rw [← HM.out]
          simpa only [sep_comm, sep_lcomm, sep_assoc] using h10
        case measure => simp [intOf]; omega
      · rw [if_neg hfull] at h6 ⊢
        dsimp only at h6 ⊢
        have g3 : ¬ (k : Int) < (fl : Int) + (sz : Int) := by omega
        have h7 : Sat w w8 (sep (isDisk p (fullD k (K ++ [x]))) (sep (isLog q p ⟨63, m + 1, false⟩) (sep (kn I3) (sep (osl 23 1 a m c vs) (sep ((rBytes.rows 1).is vs K) emp))))) := h6.p1
        have hus : (fullD k (K ++ [x])).used = fl + sz := by
          rw [full_used, framesJ_snoc, List.length_append, ← HFL.out, Nat.zero_add, ← HM.out, HSZ.out]; rfl
        have HUS := Lib.hid hus
        clear h5 h6 hcell hfull hus
        go_wp2_with fail
        refine (dused_spec p _ h7).mono ?_
        rintro e w9 ⟨rfl, h8⟩
        rw [HUS.out]
        have g4 : (((fl + sz : Nat) : Int) != (fl : Int) + (sz : Int)) = false := by simp
        have hcell := HCU.out w9 h8.p2.ext
        have h9 := (h8.alloc (.cells #[.slice ga xl gc] 23)).p4
        clear h7
        go_wp2_with (at_builtin; refine wpl_append_osl rfl (.tmp 90) (.tmp 95) 27 rfl 23 1 24 (.slice none 0 0) Try.underlying27 infoBytesJ rfl rfl h9 rfl [.slice ga xl gc] rfl (by simp) (by intro b hb; cases hb; exact new_src _ [_] _) (by simp [Value.oneCell']) (by omega) (by unfold maxLen; omega) ?_)
        intro a9 c9 w10 h10
        have h11 : Sat w w10 (sep (isLog q p ⟨63, m + 1, false⟩) (sep (blk w9.heap.size (.cells #[.slice ga xl gc] 23)) (sep (isDisk p (fullD k (K ++ [x]))) (sep (kn I3) (sep (osl 23 1 a9 (m + 1) c9 (vs ++ [.slice ga xl gc])) (sep ((rBytes.rows 1).is vs K) emp)))))) := by simpa only [sep_comm, sep_lcomm, sep_assoc] using h10
        clear h8 h9 h10 hcell g4
        go_wp2_with fail
        refine (jlen_spec q p _ h11).mono ?_
        rintro e w11 ⟨rfl, h12⟩
        have g5 : (((m + 1 : Nat) : Int) != ((m + 1 : Nat) : Int)) = false := by simp
        clear h11
        go_wp2_with fail
        refine (jup_spec q p _ h12).mono ?_
        rintro e w12 ⟨rfl, h13⟩
        clear h12
        go_wp2_with fail
        go_roundw
        case rel =>
          have e : (K ++ [x]).length = m + 1 := by rw [List.length_append, ← HM.out]; rfl
          refine ⟨i + 1, K ++ [x], a9, c9, vs ++ [.slice ga xl gc], by omega, by rw [e]; omega, by rw [e], by go_num, ?_, ?_⟩
          · intro y hy
            rcases List.mem_append.1 hy with hy | hy
            · exact HK10.out y hy
            · rw [List.mem_singleton.1 hy]; exact HXI.out
          · rw [e]
            have h14 : Sat w w12 (sep (kn I3) (sep (blk w9.heap.size (.cells #[.slice ga xl gc] 23)) (sep ((rBytes.rows 1).is vs K) (sep (isLog q p ⟨63, m + 1, false⟩) (sep (isDisk p (fullD k (K ++ [x]))) (sep (osl 23 1 a9 (m + 1) c9 (vs ++ [.slice ga xl gc])) emp)))))) := by simpa only [sep_comm, sep_lcomm, sep_assoc] using h13
            have h15 : Sat w w12 (sep (rBytes.is [.slice ga xl gc] x) _) := h14.tell HG.out
            have h16 : Sat w w12 (sep ((rBytes.rows 1).is vs K) (sep (rBytes.is [.slice ga xl gc] x) (sep (kn I3) (sep (isLog q p ⟨63, m + 1, false⟩) (sep (isDisk p (fullD k (K ++ [x]))) (sep (osl 23 1 a9 (m + 1) c9 (vs ++ [.slice ga xl gc])) emp)))))) := by
              have := h15.p2.drop
              simpa only [sep_comm, sep_lcomm, sep_assoc] using this
            have h17 := h16.snoc rfl
            simpa only [sep_comm, sep_lcomm, sep_assoc] using h17
        case measure => simp [intOf]; omega
    · have g2 : ¬ (i : Int) < (nx : Int) := by omega
      go_wp2_with fail
      have hS1 : Sat w wr (sep (osl 23 1 a m c vs) (sep ((rBytes.rows 1).is vs K) (sep (isDisk p (fullD k K)) (sep (kn I3) (sep (isLog q p ⟨63, m, false⟩) emp))))) := by simpa only [sep_comm, sep_lcomm, sep_assoc] using hS
      have hS2 : Sat w wr (sep ((rBytes.slice 1).is [.slice a m c] K) (sep (isDisk p (fullD k K)) (sep (kn I3) (sep (isLog q p ⟨63, m, false⟩) emp)))) := hS1.slice_of_osl HM.out
      obtain ⟨I4, hI4, hkept, hS3⟩ := (show Sat w wr (sep ((rBytes.slice 1).is [.slice a m c] K) (sep (kn I3) (sep (isDisk p (fullD k K)) (sep (isLog q p ⟨63, m, false⟩) emp)))) by simpa only [sep_comm, sep_lcomm, sep_assoc] using hS2).learn
      have hop := jopen_spec p (fullD k K) 63 hS3.p1 (by rw [full_read, ← HFL.out]; omega)
      rw [full_open k K (by rw [← HM.out]; omega) (by rw [← HFL.out]; omega)] at hop
      have HKEPT := Lib.hid hkept
      have HOP := Lib.hid hop
      clear hS hS1 hS2 hS3 hkept hop hI4 g2 hlt
      refine HOP.out.mono ?_
      rintro e w6 ⟨hyes, -⟩
      obtain ⟨q2, u2, rfl, h2⟩ := hyes rfl
      dsimp only at h2
      obtain ⟨I5, hI5, hgot, h3⟩ := (show Sat w w6 (sep ((rBytes.slice 1).is [u2] K) (sep (kn I4) (sep (isDisk p (fullD k K)) (sep (isLog q p ⟨63, m, false⟩) emp)))) by
        have := h2.drop
        simpa only [sep_comm, sep_lcomm, sep_assoc] using this).learn
      have HGOT := Lib.hid hgot
      have HI5 := Lib.hid hI5
      clear HOP hyes h2 hgot hI5
      go_wp2_with fail
      refine (jopen_nil 0 h3).mono ?_
      rintro e w7 ⟨rfl, h4⟩
      clear h3
      go_wp2_with fail
      have hop := jopen_spec p (fullD k K) 64 h4.p1 (by rw [readD, if_pos (by omega)]; simp)
      rw [full_open64] at hop
      refine hop.mono ?_
      rintro e w8 ⟨-, hno⟩
      obtain ⟨rfl, h5⟩ := hno (by simp)
      dsimp only at h5
      clear h4 hop hno
      have s1 : Sat w w8 (sep ((rBytes.slice 1).is [u2] K) _) := h5.p1.tell HGOT.out
      have s2 : Sat w w8 (sep ((rBytes.slice 1).is [.slice a m c] K) _) := s1.p1.tell ((rBytes.slice 1).mono HI5.out HKEPT.out)
      have s3 : Sat w w8 (sep ((rBytes.slice 1).is [u2] K) (sep ((rBytes.slice 1).is [.slice a m c] K) (sep (kn I5) (sep (isDisk p (fullD k K)) (sep (isLog q p ⟨63, m, false⟩) emp))))) := by simpa only [sep_comm, sep_lcomm, sep_assoc] using s2
      have HS3 := Lib.hid s3
      clear h5 s1 s2 s3
      go_wp2_with fail
      refine (sameLists_spec _ _ K HS3.out).mono ?_
      rintro e w9 ⟨rfl, h6⟩
      clear HS3
      obtain ⟨w10, hmk, h7⟩ := make_bytes (P := Try.prog) (t := 23) (e := 5) Try.underlying23 infoU8L h6 65537 (by omega)
      obtain ⟨I6, hI6, hz, h8⟩ := h7.bytes_of_osl.2.learn
      have hap : appendJ (fullD k K) ⟨63, m, false⟩ (List.replicate 65537 0) = (4, fullD k K, ⟨63, m, false⟩) := by
        rw [appendJ, if_pos (by rw [List.length_replicate]; omega)]
      have hap2 := jappend_spec q p (fullD k K) ⟨63, m, false⟩ _ (List.replicate 65537 0) (by have := h8; simpa only [sep_comm, sep_lcomm, sep_assoc] using h8.p2.p2) hz (by rw [List.length_replicate]; omega) (by show m ≤ _; omega)
      rw [hap] at hap2
      dsimp only at hap2
      obtain ⟨mw, hmw⟩ : ∃ mw, mw = w9.heap.size := ⟨_, rfl⟩
      rw [← hmw] at hmk hap2
      have hmk2 : (Instr.makeSlice 23 (.int .i64 65537) (.int .i64 65537)).run Try.prog w9 = .ok (.slice (some ⟨mw, 0, none⟩) 65537 65537) w10 := hmk
      have HAP := Lib.hid hap2
      clear h6 hmk h7 h8 hz hap hap2 hI6 hmw
      go_wp2_with fail
      refine HAP.out.mono ?_
      rintro e w11 ⟨rfl, h9⟩
      clear HAP hmk2
      go_wp2_with fail
      refine (lives30_spec h9.p2).mono ?_
      rintro e w12 ⟨rfl, h10⟩
      go_wp2_with fail
      go_ret
      exact ⟨rfl, h10.below⟩
end Go.Proofs.Ytdaknmcmjnbfeaa
