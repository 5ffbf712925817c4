/- The reference's box: Put, Open. -/
import Derived.Test.YtcnonbhhlbplpaaS22
import Derived.Test.YtcnonbhhlbplpaaSb
namespace Go.Proofs.Ytcnonbhhlbplpaa
open Go.RowKit PA
theorem infoREntry : (Try.prog.info? 79).map (fun i => (i.zero, i.size, i.bytes)) = some (some (.agg #[.int .i64 0, .slice none 0 0, .int .u64 0, .bool false]), 4, 48) := by kernel_rfl
theorem rEnt_one (I : Mem) (c : List Value) (x : Int × Ent) (h : rEnt.rel I c x) : ∀ u ∈ c, u.oneCell' = true := by
  obtain ⟨a, n, rfl, _⟩ := h
  intro u hu
  simp at hu
  rcases hu with rfl | rfl | rfl | rfl <;> rfl
theorem putE_rk {L : EntL} {k : Int} {x : List UInt8} (h : k < 0 ∨ 65535 < k) : putE (lkL L) L.length k x = 1 := by rw [putE, if_pos h]
theorem putE_r8 {L : EntL} {k : Int} {x : List UInt8} (h : ¬ (k < 0 ∨ 65535 < k)) (hx : x.length ≤ 1000) (hs : (lkL L k).isSome = true) : putE (lkL L) L.length k x = 8 := by rw [putE, if_neg h, if_neg (by omega), if_pos hs]
theorem putE_r0 {L : EntL} {k : Int} {x : List UInt8} (h : ¬ (k < 0 ∨ 65535 < k)) (hx : x.length ≤ 1000) (hs : lkL L k = none) (hl : L.length ≤ 4000) : putE (lkL L) L.length k x = 0 := by rw [putE, if_neg h, if_neg (by omega), if_neg (by rw [hs]; simp), if_neg (by omega)]
theorem rows_app {α : Type} {R : Rep α} {k : Nat} {I : Mem} {cs cs' : List Value} {xs xs' : List α} (h : (R.rows k).rel I cs xs) (h' : (R.rows k).rel I cs' xs') : (R.rows k).rel I (cs ++ cs') (xs ++ xs') := by
  obtain ⟨css, rfl, h2⟩ := h
  obtain ⟨css', rfl, h2'⟩ := h'
  exact ⟨css ++ css', by simp, h2.append h2'⟩
theorem rows_cut {α : Type} {R : Rep α} {k : Nat} {I : Mem} {cs : List Value} {xs : List α} (h : (R.rows k).rel I cs xs) (m : Nat) : (R.rows k).rel I (cs.take (m * k)) (xs.take m) ∧ (R.rows k).rel I (cs.drop (m * k)) (xs.drop m) := by
  obtain ⟨css, rfl, hall⟩ := h
  exact ⟨⟨css.take m, flatten_take css (fun c hc => (hall.mem c hc).choose_spec.2) m, hall.take m⟩, ⟨css.drop m, flatten_drop css (fun c hc => (hall.mem c hc).choose_spec.2) m, hall.drop m⟩⟩
theorem rows_one {α : Type} {R : Rep α} {k : Nat} {I : Mem} {c : List Value} {x : α} (h : R.rel I c x) (hk : c.length = k) : (R.rows k).rel I c [x] := ⟨[c], by simp, ⟨h, hk⟩, trivial⟩
theorem rows_ins {W w : World} {A : Assn} {J : Mem} {α : Type} {R : Rep α} {k : Nat} {cells en : List Value} {L : List α} {x : α} (h : Sat W w (sep ((R.rows k).is cells L) (sep (kn J) A))) (he : R.rel J en x) (hk : en.length = k) (m : Nat) :
    Sat W w (sep ((R.rows k).is (cells.take (m * k) ++ (en ++ cells.drop (m * k))) (L.take m ++ x :: L.drop m)) (sep (kn J) A)) := by
  refine h.wk ?_
  rintro K mm ⟨x1, y1, d1, e1, ⟨rfl, h1⟩, x2, y2, d2, rfl, ⟨rfl, hle⟩, h3⟩
  refine ⟨Mem.no, _, d1, e1, ⟨rfl, ?_⟩, Mem.no, y2, d2, rfl, ⟨rfl, hle⟩, h3⟩
  obtain ⟨h4, h5⟩ := rows_cut h1 m
  exact rows_app h4 (rows_app (rows_one (R.mono hle he) hk) h5)
set_option maxRecDepth 100000 in
set_option maxHeartbeats 4000000 in
theorem rsput_arg {W w : World} {A : Assn} (q : Nat) (L : EntL) (k : Int) (v : Value) (s : Nat) (h : Sat W w (sep (isRBox q L) A)) (hk : k < 0 ∨ 65535 < k) :
    Calls Try.prog 24 #[.pointer (some ⟨q, 0, none⟩), .int .i64 k, v, .int .u64 (s : Nat)] w fun e w' => e = .returned (.tuple #[.int .u64 0, .int .i64 1]) ∧ Sat W w' (sep (isRBox q L) A) := by
  by_cases h1 : k < 0
  · go_enter Try.func24, Try.ntmps24
    go_wp2_with fail
    go_ret2
    exact ⟨rfl, h⟩
  · have h2 : k > 65535 := by omega
    go_enter Try.func24, Try.ntmps24
    go_wp2_with fail
    go_ret2
    exact ⟨rfl, h⟩
theorem lkL_some {L : EntL} (ha : Asc L) {k : Int} {en : Ent} (h : lkL L k = some en) : ∃ hf : fndL L k < L.length, L[fndL L k].1 = k ∧ L[fndL L k].2 = en := by
  rw [lkL_at ha] at h
  split at h
  · rename_i hf
    split at h
    · rename_i h2; simp only [Option.some.injEq] at h; exact ⟨hf, h2, h⟩
    · cases h
  · cases h
theorem lkL_no {L : EntL} (ha : Asc L) {k : Int} (h : lkL L k = none) (hf : fndL L k < L.length) : L[fndL L k].1 ≠ k := by
  rw [lkL_at ha, dif_pos hf] at h
  intro e
  rw [if_pos e] at h; cases h
set_option maxRecDepth 100000 in
set_option maxHeartbeats 4000000 in
theorem rsput_twice {W w : World} {A : Assn} {I : Mem} (q : Nat) (L : EntL) (k : Int) (v : Value) (x : List UInt8) (s : Nat) (h : Sat W w (sep (isRBox q L) (sep (kn I) A))) (hv : rBytes.rel I [v] x) (hx : x.length ≤ 1000) (hl : L.length ≤ 4000) (ha : Asc L)
    (hk : ¬ (k < 0 ∨ 65535 < k)) {en : Ent} (hs : lkL L k = some en) :
    Calls Try.prog 24 #[.pointer (some ⟨q, 0, none⟩), .int .i64 k, v, .int .u64 (s : Nat)] w fun e w' => e = .returned (.tuple #[.int .u64 0, .int .i64 8]) ∧ Sat W w' (sep (isRBox q L) (sep (kn I) A)) := by
  obtain ⟨va, vc, rfl, -⟩ := bytes_rel.1 hv
  obtain ⟨hf, he, -⟩ := lkL_some ha hs
  have HF := Lib.hid (rsfind_spec q L k h (by omega))
  obtain ⟨a, c, cells, h0⟩ := isRBox_open h
  obtain ⟨n, hn⟩ : ∃ n, n = L.length := ⟨_, rfl⟩
  have c0 : w.cell? ⟨q, 0, none⟩ = some (.slice a n c) := by rw [hn]; exact h0.cell 0
  obtain ⟨g, b, d, rfl, g0, -, -, -, -⟩ := rbox_cells h0.p1.p2.p1 _ hf
  rw [he] at g0
  obtain ⟨f, hff⟩ : ∃ f, f = fndL L k := ⟨_, rfl⟩
  rw [← hff] at HF g0 hf
  rw [← hn] at hf hl
  obtain ⟨xl, hxl⟩ : ∃ xl, xl = x.length := ⟨_, rfl⟩
  rw [← hxl] at hx ⊢
  have h1 : ¬ k < 0 := by omega
  have h2 : ¬ k > 65535 := by omega
  have hfI : (f : Int) < (n : Int) := by omega
  have hxI : ¬ (xl : Int) > 65536 := by omega
  have H := Lib.hid h
  clear h0 he hff hn hf hl hx hxl hv hs ha h hk
  go_enter Try.func24, Try.ntmps24
  go_wp2_with fail
  refine HF.out.mono ?_
  rintro e w' ⟨rfl, rfl⟩
  go_wp2_with fail
  go_ret2
  exact ⟨rfl, H.out⟩
set_option maxRecDepth 100000 in
set_option maxHeartbeats 4000000 in
theorem rsput_ok {W w : World} {A : Assn} {I : Mem} (q : Nat) (L : EntL) (k : Int) (v : Value) (x : List UInt8) (s : Nat) (h : Sat W w (sep (isRBox q L) (sep (kn I) A))) (hv : rBytes.rel I [v] x) (hx : x.length ≤ 1000) (hl : L.length ≤ 4000) (ha : Asc L)
    (hk : ¬ (k < 0 ∨ 65535 < k)) (hs : lkL L k = none) :
    Calls Try.prog 24 #[.pointer (some ⟨q, 0, none⟩), .int .i64 k, v, .int .u64 (s : Nat)] w fun e w' => e = .returned (.tuple #[.int .u64 (commitN x s : Nat), .int .i64 0]) ∧ Sat W w' (sep (isRBox q (insL L k ⟨x, s, false⟩)) (sep (kn I) A)) := by
  obtain ⟨va, vc, rfl, hsw, hcl⟩ := bytes_rel.1 hv
  have hno := lkL_no ha hs
  have HF := Lib.hid (rsfind_spec q L k h (by omega))
  obtain ⟨a, c, cells, h0⟩ := isRBox_open h
  obtain ⟨n, hn⟩ : ∃ n, n = L.length := ⟨_, rfl⟩
  have c0 : w.cell? ⟨q, 0, none⟩ = some (.slice a n c) := by rw [hn]; exact h0.cell 0
  have hcells := fun hf => rbox_cells h0.p1.p2.p1 (fndL L k) hf
  have hfle := fndL_le L k
  obtain ⟨f, hff⟩ : ∃ f, f = fndL L k := ⟨_, rfl⟩
  rw [← hff, ← hn] at hfle
  rw [← hff] at HF
  rw [← hn] at hl
  obtain ⟨xl, hxl⟩ : ∃ xl, xl = x.length := ⟨_, rfl⟩
  rw [← hxl] at hx hsw hv ⊢
  obtain ⟨cm, hcm⟩ : ∃ cm, cm = commitN x s := ⟨_, rfl⟩
  rw [← hcm]
  have HCM := Lib.hid hcm
  clear hcm
  have h1 : ¬ k < 0 := by omega
  have h2 : ¬ k > 65535 := by omega
  have hxI : ¬ (xl : Int) > 65536 := by omega
  have hnI : ¬ (n : Int) ≥ 4096 := by omega
  rw [← hn] at h0
  have H0 := Lib.hid h0
  have HN := Lib.hid (And.intro hn (And.intro hff hxl))
  have HV := Lib.hid (And.intro hv (And.intro hsw hcl))
  have HCO := Lib.hid hcells
  have HNO := Lib.hid hno
  clear h0 hff hn hxl hv hs ha h hk hcells hno hsw hcl
  go_enter Try.func24, Try.ntmps24
  go_wp2_with fail
  refine HF.out.mono ?_
  rintro e w' ⟨rfl, rfl⟩
  go_upto_region 6 with (fail)
  go_cut [42] (fun tv wx => tv = .bool false ∧ wx = w')
  case first =>
    by_cases hf : f < n
    · have hfI : (f : Int) < (n : Int) := by omega
      obtain ⟨g, b, d, rfl, g0, -, -, -, -⟩ := HCO.out (by rw [← HN.out.1, ← HN.out.2.1]; exact hf)
      have hne : (L[fndL L k]'(by rw [← HN.out.1, ← HN.out.2.1]; exact hf)).1 ≠ k := HNO.out _
      obtain ⟨y, hy⟩ : ∃ y, y = (L[fndL L k]'(by rw [← HN.out.1, ← HN.out.2.1]; exact hf)).1 := ⟨_, rfl⟩
      rw [← hy] at g0 hne
      rw [← HN.out.2.1] at g0
      have hyk : (y == k) = false := by simp [hne]
      clear hy hne
      go_wp2_with fail
      go_meet
      exact ⟨rfl, rfl⟩
    · have hfI : ¬ (f : Int) < (n : Int) := by omega
      go_wp2_with fail
      go_meet
      exact ⟨rfl, rfl⟩
  case rest =>
    obtain ⟨rfl, rfl⟩ := hcut
    have hz := (H0.out.p1.osl_len)
    have hsrc := H0.out.p1.osl_Src
    have hfc : f ≤ c := by omega
    have hsl1 := run_slice_pre (P := Try.prog) (t := 50) (E := 79) (k := 4) Try.underlying50 (by kernel_rfl) a n c f hfc
    have hsl2 := run_slice_from (P := Try.prog) (t := 50) (E := 79) (k := 4) Try.underlying50 (by kernel_rfl) a n c f hfle
    have hnil := H0.out.osl_nil 79 4
    have HSRC := Lib.hid hsrc
    have HOC := Lib.hid (rEnt_one)
    have hone : ∀ u ∈ cells, u.oneCell' = true := H0.out.p2.rows_all _ rEnt_one
    have HZ := Lib.hid (And.intro hz hone)
    have HNIL := Lib.hid hnil
    have hcl4 : cells.length = n * 4 := hz.1
    have hnone : a = none → f = 0 := fun e => by have := (H0.out.p1.osl_none e).1; omega
    have HNONE := Lib.hid hnone
    clear hsrc hnil hz hone hnone hcl4
    go_wp2_with (at_builtin; refine wpl_append_osl rfl (.tmp 49) (.tmp 55) 50 rfl 79 4 48 (.agg #[.int .i64 0, .slice none 0 0, .int .u64 0, .bool false]) Try.underlying50 infoREntry rfl rfl HNIL.out rfl (cells.take (f * 4)) (by rw [List.length_take, HZ.out.1.1]; omega) HNONE.out (HSRC.out.take (f * 4)) (fun u hu => HZ.out.2 u (List.mem_of_mem_take hu)) (by omega) (by unfold maxLen; omega) ?_)
    intro a2 c2 w2 h2
    have h3 : Sat W (w2.alloc (.cells #[] 5)) (sep (osl 5 1 (some ⟨w2.heap.size, 0, none⟩) 0 0 (([] : List UInt8).map bv)) (sep (osl 79 4 a2 f c2 (cells.take (f * 4))) (sep (blk q (.cells (rbC a n c) 52 (0, 0))) (sep (osl 79 4 a n c cells) (sep ((rEnt.rows 4).is cells L) (sep (kn I) A)))))) := lit_osl (E := 5) h2 [] 0 rfl (by unfold maxLen; omega)
    have hvs := (rel_src' HV.out.1).2.2 _ h3.p5.ext
    have hv0 : va = none → xl = 0 := fun e => by have := HV.out.2.1.2.2 e; have := HV.out.2.1.1; omega
    have HVS := Lib.hid hvs
    have HV0 := Lib.hid hv0
    clear hvs hv0 h2 HNIL
    go_wp2_with (at_builtin; refine wpl_append_osl rfl (.tmp 59) (.tmp 60) 29 rfl 5 1 1 (.int .u8 0) Try.underlying29 infoU8c rfl rfl h3 rfl (x.map bv) (by rw [List.length_map, HN.out.2.2]; omega) HV0.out HVS.out (bv_one x) (by omega) (by unfold maxLen; omega) ?_)
    intro a4 c4 w4 h4
    clear h3 HVS HV0
    obtain ⟨J, hIJ, hr4, h5⟩ := (show Sat W w4 (sep (rBytes.is [.slice a4 xl c4] x) (sep (kn I) (sep (osl 79 4 a2 f c2 (cells.take (f * 4))) (sep (blk q (.cells (rbC a n c) 52 (0, 0))) (sep (osl 79 4 a n c cells) (sep ((rEnt.rows 4).is cells L) A)))))) by
      have := h4.bytes_of_osl.2
      simpa only [sep_comm, sep_lcomm, sep_assoc] using this).learn
    obtain ⟨en, hen⟩ : ∃ en : List Value, en = [.int .i64 k, .slice a4 xl c4, .int .u64 (s : Nat), .bool false] := ⟨_, rfl⟩
    have h6 := ((h5.alloc (.cells en.toArray 79)).osl_mk 1 1 4 en (by rw [hen]; rfl) (Nat.le_refl _) (by unfold maxLen; omega) (by rw [hen]; rfl) (by rw [hen]; rfl))
    have h7 := h6.osl_Src
    rw [hen] at h6 h7
    have h8 : Sat W (w4.alloc (.cells #[.int .i64 k, .slice a4 xl c4, .int .u64 (s : Nat), .bool false] 79)) (sep (osl 79 4 a2 f c2 (cells.take (f * 4))) (sep (kn J) (sep (blk q (.cells (rbC a n c) 52 (0, 0))) (sep (osl 79 4 a n c cells) (sep ((rEnt.rows 4).is cells L) A))))) := by
      have := h6.forget_osl
      simpa only [sep_comm, sep_lcomm, sep_assoc] using this
    have h7' : Src (w4.alloc (.cells #[.int .i64 k, .slice a4 xl c4, .int .u64 (s : Nat), .bool false] 79)) (some ⟨w4.heap.size, 0, none⟩) [.int .i64 k, .slice a4 xl c4, .int .u64 (s : Nat), .bool false] := h7
    have H7 := Lib.hid h7'
    have HR4 := Lib.hid (And.intro hIJ hr4)
    clear h4 h5 h6 h7 h7' hr4 hIJ hen
    go_wp2_with (at_builtin; refine wpl_append_osl rfl (.tmp 57) (.tmp 64) 50 rfl 79 4 48 (.agg #[.int .i64 0, .slice none 0 0, .int .u64 0, .bool false]) Try.underlying50 infoREntry rfl rfl h8 rfl [.int .i64 k, .slice a4 xl c4, .int .u64 (s : Nat), .bool false] rfl (fun e => by cases e) H7.out (by intro u hu; simp at hu; rcases hu with rfl | rfl | rfl | rfl <;> rfl) (by omega) (by unfold maxLen; omega) ?_)
    intro a5 c5 w5 h9
    have HSR := Lib.hid (h9.p3.osl_Src.sub (c = f) (f * 4) (by intro e; have := HZ.out.1.1; have := HZ.out.1.2; omega))
    have c0 : w5.cell? ⟨q, 0, none⟩ = some (.slice a n c) := h9.p2.cell 0
    obtain ⟨a6, ha6⟩ : ∃ a6, a6 = subA a (c = f) (f * 4) := ⟨_, rfl⟩
    have ha6n : a6 = none → n - f = 0 := fun e => by have := HNONE.out (subA_none (by rw [← ha6]; exact e)); have := (h9.p3.osl_none (subA_none (by rw [← ha6]; exact e))).1; omega
    rw [← ha6] at HSR hsl2
    have HA6 := Lib.hid ha6n
    have H9 := Lib.hid h9
    clear h8 H7 ha6 ha6n
    have hcl4 : cells.length = n * 4 := HZ.out.1.1
    have HC4 := Lib.hid hcl4
    have hnfI : IntKind.i64.wrap (n : Int) = n := IntWalk.i64_in _ (by omega)
    clear hcl4 hnfI
    go_wp2_with (at_builtin; refine wpl_append_osl rfl (.tmp 67) (.tmp 73) 50 rfl 79 4 48 (.agg #[.int .i64 0, .slice none 0 0, .int .u64 0, .bool false]) Try.underlying50 infoREntry rfl rfl H9.out rfl (cells.drop (f * 4)) (by rw [List.length_drop, HC4.out, Nat.sub_mul]) HA6.out HSR.out (fun u hu => HZ.out.2 u (List.mem_of_mem_drop hu)) (by omega) (by unfold maxLen; omega) ?_)
    intro a7 c7 w7 h10
    have c0 : w7.cell? ⟨q, 0, none⟩ = some (.slice a n c) := h10.p2.cell 0
    have u0 : w7.frozen? ⟨q, 0, none⟩ = false := h10.p2.unfrozen 0
    have h11 : Sat W (w7.setCell ⟨q, 0, none⟩ (.slice a7 (f + 1 + (n - f)) c7)) (sep (blk q (.cells (rbC a7 (f + 1 + (n - f)) c7) 52 (0, 0))) _) := h10.p2.setCell 0 (.slice a7 (f + 1 + (n - f)) c7)
    have h12 : Sat W (w7.setCell ⟨q, 0, none⟩ (.slice a7 (f + 1 + (n - f)) c7)) (sep ((rEnt.rows 4).is cells L) (sep (kn J) (sep (blk q (.cells (rbC a7 (f + 1 + (n - f)) c7) 52 (0, 0))) (sep (osl 79 4 a7 (f + 1 + (n - f)) c7 (cells.take (f * 4) ++ ([.int .i64 k, .slice a4 xl c4, .int .u64 (s : Nat), .bool false] ++ cells.drop (f * 4)))) A)))) := by
      have h13 : Sat W _ (sep (osl 79 4 a n c cells) _) := h11.p3
      have := h13.forget_osl
      simpa only [sep_comm, sep_lcomm, sep_assoc, List.cons_append, List.nil_append, List.append_assoc] using this
    have hen : rEnt.rel J [.int .i64 k, .slice a4 xl c4, .int .u64 (s : Nat), .bool false] (k, ⟨x, s, false⟩) := ⟨a4, c4, by dsimp only; rw [← HN.out.2.2], by dsimp only; rw [← HN.out.2.2]; exact HR4.out.2⟩
    have h14 := rows_ins h12 hen rfl f
    have hil := insL_len L k ⟨x, s, false⟩
    have hie : insL L k ⟨x, s, false⟩ = L.take f ++ (k, ⟨x, s, false⟩) :: L.drop f := by rw [insL, ← HN.out.2.1]
    rw [← hie] at h14
    have h15 := isRBox_mk (q := q) (show f + 1 + (n - f) = (insL L k ⟨x, s, false⟩).length by rw [hil, ← HN.out.1]; omega) (show Sat W _ (sep (blk q (.cells (rbC a7 (f + 1 + (n - f)) c7) 52 (0, 0))) (sep (osl 79 4 a7 (f + 1 + (n - f)) c7 (cells.take (f * 4) ++ ([.int .i64 k, .slice a4 xl c4, .int .u64 (s : Nat), .bool false] ++ cells.drop (f * 4)))) (sep ((rEnt.rows 4).is (cells.take (f * 4) ++ ([.int .i64 k, .slice a4 xl c4, .int .u64 (s : Nat), .bool false] ++ cells.drop (f * 4))) (insL L k ⟨x, s, false⟩)) (sep (kn J) A)))) by simpa only [sep_comm, sep_lcomm, sep_assoc] using h14)
    have hco := rcommit_spec (.slice va xl vc) x s (show Sat W _ (sep (kn I) (sep (isRBox q (insL L k ⟨x, s, false⟩)) A)) by exact (h15.p1).kn_mono HR4.out.1) HV.out.1 (by have := HN.out.2.2; omega)
    rw [← HCM.out] at hco
    have HCOM := Lib.hid hco
    clear h9 h10 h11 h12 h14 h15 hil hie hco hen
    go_wp2_with fail
    refine HCOM.out.mono ?_
    rintro e w8 ⟨rfl, h16⟩
    have H16 := Lib.hid h16.p1
    clear h16 HCOM
    go_wp2_with fail
    go_ret2
    exact ⟨rfl, H16.out⟩
end Go.Proofs.Ytcnonbhhlbplpaa
