/- JournalFrames, the walk. -/
import Derived.Test.YtdaknmcmjnbfeaaGJournalApart33
import Derived.Test.YtdaknmcmjnbfeaaGJournalApart36
import Derived.Deep.DeepCutAuto
namespace PA
open Go Go.RowKit
theorem slice_form {α : Type} {R : Rep α} {k : Nat} {I : Mem} {v : Value} {xs : List α} (h : (R.slice k).rel I [v] xs) : ∃ a c, v = .slice a xs.length c ∧ Swf a xs.length c := by
  obtain ⟨a, c, cells, e, hw, -, -⟩ := h
  cases e
  exact ⟨a, c, rfl, hw⟩
theorem rows_take_rel {α : Type} {R : Rep α} {k : Nat} {I : Mem} {cs : List Value} {xs : List α} (h : (R.rows k).rel I cs xs) (n : Nat) : (R.rows k).rel I (cs.take (n * k)) (xs.take n) := by
  obtain ⟨css, rfl, hall⟩ := h
  exact ⟨css.take n, flatten_take css (fun c hc => (hall.mem c hc).choose_spec.2) n, hall.take n⟩
theorem slice_take {α : Type} {R : Rep α} {k : Nat} {I : Mem} {a : Option Addr} {n c : Nat} {xs : List α} (j : Nat) (hj : j ≤ n) (h : (R.slice k).rel I [.slice a n c] xs) : (R.slice k).rel I [.slice a j c] (xs.take j) := by
  obtain ⟨a', c', cells, e, hw, hc, hr⟩ := h
  simp only [List.cons.injEq, Value.slice.injEq, and_true] at e
  obtain ⟨rfl, rfl, rfl⟩ := e
  have hl : (xs.take j).length = j := by rw [List.length_take]; omega
  refine ⟨a, c, cells.take (j * k), by rw [hl], ⟨by rw [hl]; have := hw.1; omega, hw.2.1, hw.2.2⟩, ?_, rows_take_rel hr j⟩
  rcases hc with hc | ⟨b, o, cs, t, f, e1, e2, e3⟩
  · left; rw [hc]; simp
  · right
    refine ⟨b, o, cs, t, f, e1, e2, fun i u hu => e3 i u ?_⟩
    rw [List.getElem?_take] at hu
    split at hu
    · exact hu
    · cases hu
theorem slice_elem {α : Type} {R : Rep α} {I : Mem} {w : World} {a : Option Addr} {n c : Nat} {xs : List α} (h : (R.slice 1).rel I [.slice a n c] xs) (he : Ext I w) (i : Nat) (hi : i < xs.length) :
    ∃ b o v, a = some ⟨b, o, none⟩ ∧ w.cell? ⟨b, o + i, none⟩ = some v ∧ R.rel I [v] xs[i] := by
  obtain ⟨a', c', cells, e, hw, hc, css, rfl, hall⟩ := h
  simp only [List.cons.injEq, Value.slice.injEq, and_true] at e
  obtain ⟨rfl, rfl, rfl⟩ := e
  have hl := hall.length
  have hi' : i < css.length := by omega
  obtain ⟨hr, hk⟩ := hall.get i hi' hi
  obtain ⟨v, hv⟩ : ∃ v, css[i] = [v] := by
    match hcs : css[i], hk with
    | [x], _ => exact ⟨x, rfl⟩
  have hf := flatten_get (k := 1) css (fun c hc => (hall.mem c hc).choose_spec.2) i hi' 0 (by omega)
  rw [hv] at hf hr
  have hf2 : css.flatten[i]? = some v := by simpa using hf
  obtain ⟨b, o, e, h2⟩ := cells_ext hc (fun e => by rw [e] at hf2; simp at hf2)
  exact ⟨b, o, v, e, h2 w he i v hf2, hr⟩
end PA
namespace Go.Proofs.Ytdaknmcmjnbfeaa
open Go.RowKit PA
theorem framesJ_len : ∀ (xs : List (List UInt8)) (i : Nat), i + xs.length ≤ 1000000 → (∀ x ∈ xs, x.length ≤ 200) → (framesJ i xs).length ≤ 240 * xs.length
  | [], i, _, _ => by rw [framesJ_nil]; simp
  | x :: xs, i, h, hx => by
    have h1 := framesJ_len xs (i + 1) (by simp at h; omega) (fun y hy => hx y (by simp [hy]))
    have h2 := hx x (by simp)
    have h3 := frameJ_le i x (by omega) (by simp at h; omega) (by omega)
    rw [framesJ_cons, List.length_append, List.length_cons]
    omega
theorem framesJ_take_le (xs : List (List UInt8)) (k : Nat) (h : xs.length ≤ 1000) (hx : ∀ x ∈ xs, x.length ≤ 200) : (framesJ 0 (xs.take k)).length ≤ 240 * k := by
  have := framesJ_len (xs.take k) 0 (by rw [List.length_take]; omega) (fun x h => hx x (List.mem_of_mem_take h))
  rw [List.length_take] at this
  have : 240 * min k xs.length ≤ 240 * k := Nat.mul_le_mul_left _ (Nat.min_le_left _ _)
  omega
theorem framesJ_take_succ (xs : List (List UInt8)) (k : Nat) (hk : k < xs.length) : framesJ 0 (xs.take (k + 1)) = framesJ 0 (xs.take k) ++ frameJ k xs[k] := by
  rw [List.take_succ_eq_append_getElem hk, framesJ_snoc, List.length_take, Nat.min_eq_left (by omega), Nat.zero_add]
  rfl
set_option maxRecDepth 100000 in
set_option maxHeartbeats 8000000 in
theorem journalFrames_walk (a0 : Option Addr) (len0 cap0 : Nat) (z0 : List Int) (a1 : Int) (a2 : Option Addr) (len2 cap2 : Nat) (z2 : List Int) (a3 : Option Addr) (len3 cap3 : Nat) (z3 : List Int) (w : World)
    (w0 : IsArg w a0 len0 cap0 z0) (w1 : (Lit.int .i64 a1).wf = true) (w2 : IsArgB w a2 len2 cap2 z2) (w3 : IsArgB w a3 len3 cap3 z3) :
    Calls Try.prog 3 #[.slice a0 len0 cap0, .int .i64 a1, .slice a2 len2 cap2, .slice a3 len3 cap3] w fun e w' => e = .returned (.bool true) ∧ Below w.heap.size w w' := by
  obtain ⟨ns, hns, hr0, h64⟩ := argI w0
  obtain ⟨b, hb, hr2⟩ := argB w2
  obtain ⟨rest, hrest, hr3⟩ := argB w3
  have hn64 := i64_of_wf w1
  have h := Sat.startKn w
  have HR0 := Lib.hid hr0
  have HR3 := Lib.hid hr3
  have HNS := Lib.hid hns
  have H64 := Lib.hid h64
  have HN := Lib.hid hn64
  clear hr0 hr3 w0 w1 w2 w3 hns h64 hn64 hb hrest
  have hfew := few_spec (.slice a2 len2 cap2) b 200 h hr2 (by omega)
  have HF := Lib.hid hfew
  clear hr2 hfew h
  go_enter Try.func3, Try.ntmps3
  go_wp2_with fail
  refine HF.out.mono ?_
  rintro e w1 ⟨ao, co, rfl, h1⟩
  clear HF
  obtain ⟨own, hown⟩ : ∃ own, own = b.take 200 := ⟨_, rfl⟩
  have hol : own.length ≤ 200 := by rw [hown, List.length_take]; omega
  rw [← hown] at h1 ⊢
  clear hown
  obtain ⟨I, hI, ho, h2⟩ := h1.bytes_of_osl.2.learn
  obtain ⟨ol, hol2⟩ : ∃ ol, ol = own.length := ⟨_, rfl⟩
  rw [← hol2] at hol ho ⊢
  have HO := Lib.hid ho
  have HOL := Lib.hid hol2
  have HI := Lib.hid hI
  have hol3 : own.length ≤ 1000000 := by omega
  have HOL3 := Lib.hid hol3
  clear h1 hI ho hol2 hol3
  go_wp2_with fail
  refine (jframe_spec a1 _ own h2 HO.out HN.out HOL3.out).mono ?_
  rintro e w2 ⟨fa, fc, rfl, h3⟩
  obtain ⟨f1, hf1⟩ : ∃ f1, f1 = frameJ a1 own := ⟨_, rfl⟩
  rw [← hf1] at h3 ⊢
  obtain ⟨I1, hI1, hb1, h4⟩ := h3.bytes_of_osl.2.learn
  have HB1 := Lib.hid hb1
  have HI1 := Lib.hid hI1
  have HF1 := Lib.hid hf1
  clear h2 h3 hb1 hI1 hf1
  obtain ⟨fl1, hfl1⟩ : ∃ fl1, fl1 = f1.length := ⟨_, rfl⟩
  rw [← hfl1] at HB1 ⊢
  clear hfl1
  go_wp2_with fail
  refine (rframe_spec a1 _ own h4 (rBytes.mono HI1.out HO.out) HN.out HOL3.out).mono ?_
  rintro e w3 ⟨fa2, fc2, rfl, h5⟩
  rw [← HF1.out] at h5 ⊢
  obtain ⟨I2, hI2, hb2, h6⟩ := h5.bytes_of_osl.2.learn
  have h7 : Sat w w3 (sep (rBytes.is [_] f1) _) := h6.tell (rBytes.mono hI2 HB1.out)
  have h8 : Sat w w3 (sep (rBytes.is [_] f1) _) := h7.p1.tell hb2
  have h9 : Sat w w3 (sep (rBytes.is [.slice fa fl1 fc] f1) (sep (rBytes.is [.slice fa2 f1.length fc2] f1) (sep (kn I2) emp))) := by simpa only [sep_comm, sep_lcomm, sep_assoc] using h8
  have HI2 := Lib.hid hI2
  clear h4 h5 h6 h7 h8 hI2 hb2
  go_wp2_with fail
  refine (sameBytes_spec _ _ _ _ h9).mono ?_
  rintro e w4 ⟨rfl, h10⟩
  rw [decide_eq_true (rfl : f1 = f1)]
  have h11 := h10.drop.drop
  clear h9 h10
  go_wp2_with fail
  refine (records30_spec _ ns h11 ((rInt.slice 1).mono (Mem.le_trans HI.out (Mem.le_trans HI1.out HI2.out)) HR0.out) H64.out).mono ?_
  rintro e w5 ⟨ra, rc, vs, xs, rfl, hxl, hx10, h12⟩
  obtain ⟨xl, hxl2⟩ : ∃ xl, xl = xs.length := ⟨_, rfl⟩
  have hxl6 : xl ≤ 6 := by omega
  rw [← hxl2] at h12 ⊢
  have HXL := Lib.hid hxl2
  have HX10 := Lib.hid hx10
  have h13 := (h12.alloc (.cells #[.slice ao ol co] 23)).p1
  clear h11 hxl hxl2 hx10 h12
  go_wp2_with (at_builtin; refine wpl_append_osl rfl (.tmp 29) (.tmp 31) 27 rfl 23 1 24 (.slice none 0 0) Try.underlying27 infoBytesJ rfl rfl h13 rfl [.slice ao ol co] rfl (by simp) (by intro b hb; cases hb; exact new_src _ [_] _) (by simp [Value.oneCell']) (by omega) (by unfold maxLen; omega) ?_)
  intro xa xc w6 h14
  obtain ⟨X, hX⟩ : ∃ X, X = xs ++ [own] := ⟨_, rfl⟩
  obtain ⟨nx, hnx⟩ : ∃ nx, nx = xl + 1 := ⟨_, rfl⟩
  have hXl : nx = X.length := by rw [hX, List.length_append, ← HXL.out, hnx]; rfl
  have hX200 : ∀ x ∈ X, x.length ≤ 200 := by
    intro x hx
    rw [hX] at hx
    rcases List.mem_append.1 hx with hx | hx
    · have := HX10.out x hx; omega
    · rw [List.mem_singleton.1 hx, ← HOL.out]; exact hol
  have h15 : Sat w w6 (sep ((rBytes.slice 1).is [.slice xa nx xc] X) (sep (kn I2) emp)) := by
    have h15 : Sat w w6 (sep (kn I2) (sep ((rBytes.rows 1).is vs xs) (sep (osl 23 1 xa (xl + 1) xc (vs ++ [.slice ao ol co])) emp))) := by
      have := h14.p1.drop
      simpa only [sep_comm, sep_lcomm, sep_assoc] using this
    have h16 : Sat w w6 (sep (rBytes.is [.slice ao ol co] own) _) := h15.tell (rBytes.mono (Mem.le_trans HI1.out HI2.out) HO.out)
    have h17 := (h16.p2.snoc rfl).p2
    rw [← hnx, ← hX] at h17
    exact h17.slice_of_osl hXl
  have HX200 := Lib.hid hX200
  have HXl := Lib.hid hXl
  have hnx7 : nx ≤ 7 := by omega
  obtain ⟨I3, hI3, hxx, h16⟩ := h15.learn
  have HXX := Lib.hid hxx
  have HI3 := Lib.hid hI3
  have h17 := h16.osl_nil 5 1
  rw [← hnx]
  clear h13 h14 h15 h16 hX hXl hX200 hnx hxl6 hI3 hxx
  go_wp2_with fail
  go_loopw [11, 12] (fun ov iv wr => ∃ (k : Nat) (a : Option Addr) (c : Nat), k ≤ nx ∧ ov = .slice a (framesJ 0 (X.take k)).length c ∧ iv = .int .i64 (k : Nat) ∧ Sat w wr (sep (osl 5 1 a (framesJ 0 (X.take k)).length c ((framesJ 0 (X.take k)).map bv)) (sep (kn I3) emp))) (fun _ iv _ => nx - (intOf iv).toNat)
  case atStart => exact ⟨0, none, 0, Nat.zero_le _, rfl, rfl, h17⟩
  case round =>
    clear h17
    obtain ⟨k, a, c, hk, rfl, rfl, hS⟩ := hrel
    have hfle := framesJ_take_le X k (by have := HXl.out; omega) HX200.out
    obtain ⟨F, hF⟩ : ∃ F, F = framesJ 0 (X.take k) := ⟨_, rfl⟩
    rw [← hF] at hS hfle ⊢
    obtain ⟨n, hn⟩ : ∃ n, n = F.length := ⟨_, rfl⟩
    rw [← hn] at hS hfle ⊢
    have HFF := Lib.hid hF
    have HNF := Lib.hid hn
    clear hF hn
    by_cases hlt : k < nx
    · have g2 : (k : Int) < (nx : Int) := by omega
      have hkX : k < X.length := by have := HXl.out; omega
      obtain ⟨gb, go, gv, rfl, hcell, hgr⟩ := slice_elem HXX.out hS.p1.ext k hkX
      have hxk := HX200.out _ (List.getElem_mem hkX)
      have hsucc := framesJ_take_succ X k hkX
      rw [← HFF.out] at hsucc
      obtain ⟨xk, hxk2⟩ : ∃ xk, xk = X[k] := ⟨_, rfl⟩
      rw [← hxk2] at hgr hxk hsucc
      have HG := Lib.hid hgr
      have HXK := Lib.hid hxk
      have HS := Lib.hid hsucc
      clear hxk2 hgr hxk hsucc
      have hS2 := hS.p1
      clear hS
      go_wp2_with fail
      refine (jframe_spec (k : Int) _ xk hS2 HG.out ⟨by omega, by omega⟩ (by have := HXK.out; omega)).mono ?_
      rintro e w7 ⟨ka, kc, rfl, h1⟩
      obtain ⟨fk, hfk⟩ : ∃ fk, fk = frameJ k xk := ⟨_, rfl⟩
      rw [← hfk] at h1 HS ⊢
      have hfkl : fk.length ≤ 240 := by rw [hfk]; have := frameJ_le k xk (by omega) (by omega) (by have := HXK.out; omega); have := HXK.out; omega
      obtain ⟨I4, hI4, hb4, h2⟩ := h1.bytes_of_osl.2.learn
      have hsrc := rel_src hb4 h2.ext
      have HSR := Lib.hid hsrc
      obtain ⟨fkl, hfkl2⟩ : ∃ fkl, fkl = fk.length := ⟨_, rfl⟩
      rw [← hfkl2] at HSR hfkl ⊢
      have HFKL := Lib.hid hfkl2
      have HI4 := Lib.hid hI4
      clear hS2 hfk h1 hsrc hI4 hb4 hfkl2 hcell
      go_wp2_with (at_builtin; refine wpl_append_osl rfl (.tmp 39) (.tmp 45) 23 rfl 5 1 1 (.int .u8 0) Try.underlying23 infoU8w rfl rfl h2.p1 rfl (fk.map bv) (by rw [List.length_map, HFKL.out]; simp) HSR.out.2.1 HSR.out.2.2 (bv_one fk) (by omega) (by unfold maxLen; omega) ?_)
      intro a9 c9 w9 h9
      clear h2
      go_wp2_with fail
      go_roundw
      case rel =>
        have e : (F ++ fk).length = n + fkl := by rw [List.length_append, ← HNF.out, ← HFKL.out]
        refine ⟨k + 1, a9, c9, by omega, by rw [HS.out, e], by go_num, ?_⟩
        rw [HS.out, e, List.map_append]
        exact (h9.p1.kn_mono HI4.out).p1
      case measure => simp [intOf]; omega
    · have g2 : ¬ (k : Int) < (nx : Int) := by omega
      obtain rfl : k = nx := by omega
      have hfull : F = framesJ 0 X := by rw [HFF.out, HXl.out, List.take_length]
      have HFULL := Lib.hid hfull
      clear hfull hlt hk
      go_wp2_with fail
      have hfew := few_spec _ rest 30 hS.p1 (rBytes.mono (Mem.le_trans HI.out (Mem.le_trans HI1.out (Mem.le_trans HI2.out HI3.out))) HR3.out) (by omega)
      have HFEW := Lib.hid hfew
      clear hfew hS g2
      refine HFEW.out.mono ?_
      rintro e w7 ⟨ra2, rc2, rfl, h1⟩
      clear HFEW
      obtain ⟨t, ht⟩ : ∃ t, t = rest.take 30 := ⟨_, rfl⟩
      have htl : t.length ≤ 30 := by rw [ht, List.length_take]; omega
      rw [← ht] at h1 ⊢
      clear ht
      obtain ⟨I4, hI4, hb4, h2⟩ := h1.bytes_of_osl.2.learn
      have hsrc := rel_src hb4 h2.ext
      obtain ⟨tl, htl2⟩ : ∃ tl, tl = t.length := ⟨_, rfl⟩
      rw [← htl2] at hsrc htl ⊢
      have HSR := Lib.hid hsrc
      have HTL := Lib.hid htl2
      have HI4 := Lib.hid hI4
      clear h1 hI4 hb4 hsrc htl2
      go_wp2_with (at_builtin; refine wpl_append_osl rfl (.tmp 49) (.tmp 51) 23 rfl 5 1 1 (.int .u8 0) Try.underlying23 infoU8w rfl rfl h2.p1 rfl (t.map bv) (by rw [List.length_map, HTL.out]; simp) HSR.out.2.1 HSR.out.2.2 (bv_one t) (by omega) (by unfold maxLen; omega) ?_)
      intro a9 c9 w9 h9
      have e : (F ++ t).length = n + tl := by rw [List.length_append, ← HNF.out, ← HTL.out]
      rw [← List.map_append] at h9
      obtain ⟨al, hal⟩ : ∃ al, al = F ++ t := ⟨_, rfl⟩
      obtain ⟨sl, hsl⟩ : ∃ sl, sl = n + tl := ⟨_, rfl⟩
      rw [← hal] at h9 e
      rw [← hsl] at h9 e ⊢
      have hall : al.length ≤ 1000000 := by rw [e]; omega
      obtain ⟨I5, hI5, hb5, h10⟩ := h9.bytes_of_osl.2.learn
      have hsc : scanJ 0 al = (X ++ (scanJ X.length t).1, n + (scanJ X.length t).2) := by
        have := scanJ_frames X 0 t (by have := HXl.out; omega) (by rw [← HFULL.out, ← HNF.out]; omega)
        rw [← HFULL.out, ← hal, ← HNF.out, Nat.zero_add] at this
        exact this
      obtain ⟨got, hgot⟩ : ∃ got, got = (scanJ 0 al).1 := ⟨_, rfl⟩
      obtain ⟨km, hkm⟩ : ∃ km, km = (scanJ 0 al).2 := ⟨_, rfl⟩
      have hkn : n ≤ km := by rw [hkm, hsc]; exact Nat.le_add_right _ _
      have hgx : got.take k = X := by rw [hgot, hsc, HXl.out]; exact List.take_left
      have hgl : k ≤ got.length := by
        have := congrArg List.length hgx
        rw [List.length_take, ← HXl.out] at this
        omega
      have HI5 := Lib.hid hI5
      have HB5 := Lib.hid hb5
      have HALL := Lib.hid hall
      have HGOT := Lib.hid hgot
      have HKM := Lib.hid hkm
      have HGX := Lib.hid hgx
      clear h2 h9 hall hI5 hb5 hsc hgot hkm hgx hal hsl e HSR
      go_wp2_with fail
      refine (scan_spec _ al h10 HB5.out HALL.out).mono ?_
      rintro e w10 ⟨u, rfl, h11⟩
      rw [← HGOT.out] at h11
      rw [← HKM.out]
      obtain ⟨I6, hI6, hu, h12⟩ := h11.learn
      have HU := Lib.hid hu
      have HI6 := Lib.hid hI6
      clear h10 h11 hu hI6
      go_wp2_with fail
      refine (rscan_spec _ al h12 (rBytes.mono HI6.out HB5.out) HALL.out).mono ?_
      rintro e w11 ⟨v, rfl, h13⟩
      rw [← HGOT.out] at h13
      rw [← HKM.out]
      obtain ⟨I7, hI7, hv, h14⟩ := h13.learn
      have hu7 := (rBytes.slice 1).mono hI7 HU.out
      obtain ⟨ua, uc, rfl, huw⟩ := slice_form hu7
      obtain ⟨gl, hgl2⟩ : ∃ gl, gl = got.length := ⟨_, rfl⟩
      rw [← hgl2] at hgl huw hu7 ⊢
      have hglc : gl ≤ uc := huw.1
      have huc : uc ≤ 9223372036854775807 := huw.2.1
      have hkc : k ≤ uc := by omega
      have hts := slice_take k hgl hu7
      rw [HGX.out] at hts
      have s1 : Sat w w11 (sep ((rBytes.slice 1).is [.slice ua gl uc] got) _) := h14.tell hu7
      have s2 : Sat w w11 (sep ((rBytes.slice 1).is [v] got) _) := s1.p1.tell hv
      have s3 : Sat w w11 (sep ((rBytes.slice 1).is [.slice ua gl uc] got) (sep ((rBytes.slice 1).is [v] got) (sep (kn I7) emp))) := by simpa only [sep_comm, sep_lcomm, sep_assoc] using s2
      have HS3 := Lib.hid s3
      have HTS := Lib.hid hts
      have HI7 := Lib.hid hI7
      clear h12 h13 h14 s1 s2 s3 hts hI7 hu7 hv huw hgl2 HU
      go_wp2_with fail
      refine (sameLists_spec _ _ got HS3.out).mono ?_
      rintro e w12 ⟨rfl, h15⟩
      have s4 : Sat w w12 (sep ((rBytes.slice 1).is [.slice ua k uc] X) _) := h15.tell HTS.out
      have s5 : Sat w w12 (sep ((rBytes.slice 1).is [.slice xa k xc] X) _) := s4.p1.tell ((rBytes.slice 1).mono (Mem.le_trans HI4.out (Mem.le_trans HI5.out (Mem.le_trans HI6.out HI7.out))) HXX.out)
      have s6 : Sat w w12 (sep ((rBytes.slice 1).is [.slice ua k uc] X) (sep ((rBytes.slice 1).is [.slice xa k xc] X) (sep (kn I7) emp))) := by simpa only [sep_comm, sep_lcomm, sep_assoc] using s5
      have HS6 := Lib.hid s6
      clear HS3 h15 s4 s5 s6 HTS
      have g1 : (n : Int) ≤ (km : Int) := by omega
      have g2 : (k : Int) ≤ (gl : Int) := by omega
      go_wp2_with fail
      refine (sameLists_spec _ _ X HS6.out).mono ?_
      rintro e w13 ⟨rfl, h16⟩
      clear HS6
      go_wp2_with fail
      refine (lives30_spec h16).mono ?_
      rintro e w14 ⟨rfl, h17⟩
      clear h16
      go_wp2_with fail
      go_ret
      exact ⟨rfl, h17.below⟩
end Go.Proofs.Ytdaknmcmjnbfeaa
