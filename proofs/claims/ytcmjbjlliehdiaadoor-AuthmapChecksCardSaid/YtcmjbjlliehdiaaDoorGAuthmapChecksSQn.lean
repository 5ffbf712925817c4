/- the reference's Encode of a proof. -/
import Derived.Test.YtcmjbjlliehdiaaDoorGAuthmapChecks36
namespace Go.Proofs.YtcmjbjlliehdiaaDoor
open Go.RowKit PA
attribute [local go_sem] Oper.semAt_some
structure SrcOkQ (w : World) (a : Option Addr) (n : Nat) (vs : List Value) : Prop where
  len : vs.length = n * 1
  nil : a = none → n = 0
  src : ∀ b, a = some b → ∀ j u, vs[j]? = some u → w.cell? (b.add j) = some u
  one : ∀ u ∈ vs, u.oneCell' = true
theorem osl_okQ {W w : World} {A : Assn} {E : Nat} {a : Option Addr} {n c : Nat} {bs : List UInt8} (h : Sat W w (sep (osl E 1 a n c (bs.map bv)) A)) : SrcOkQ w a n (bs.map bv) :=
  ⟨h.osl_len.1, fun e => by have := h.swf_of_osl.2.2 e; have := h.swf_of_osl.1; omega, h.osl_src, bv_one bs⟩
/-- append of owned bytes to owned bytes. -/
theorem wpl_app_b {W w : World} {A : Assn} {ops : Array Oper} {rest : List Oper} {o : Oper} {ac : Act} {Q : Exit → Act → World → Prop} (hgd : o.guard = none) (s y : Operand)
    (ho : o.op = .call { callee := .builtin .append, args := #[s, y], argTypes := #[32, 32] })
    {a x : Option Addr} {n c m cc : Nat} {xs ys : List UInt8} (hs : ac.eval s = .slice a n c) (hy : ac.eval y = .slice x m cc)
    (h : Sat W w (sep (osl 5 1 a n c (xs.map bv)) (sep (osl 5 1 x m cc (ys.map bv)) A))) (hb : n + m ≤ 140737488355328)
    (hK : ∀ a' c' w' (zs : List UInt8), Hid (zs = xs ++ ys ∧ n + m = zs.length ∧ Sat W w' (sep (osl 5 1 a' (n + m) c' (zs.map bv)) A)) → wpList Tryd.prog ops Q rest (ac.put o.dst (.slice a' (n + m) c')) w') : wpList Tryd.prog ops Q (o :: rest) ac w := by
  have hok := osl_okQ (show Sat W w (sep (osl 5 1 x m cc (ys.map bv)) (sep (osl 5 1 a n c (xs.map bv)) A)) by simpa only [sep_comm, sep_lcomm, sep_assoc] using h)
  have e1 := h.osl_len.1
  have e2 := hok.len
  rw [List.length_map, Nat.mul_one] at e1
  rw [List.length_map, Nat.mul_one] at e2
  refine wpl_append_osl hgd s y 32 ho 5 1 1 (.int .u8 0) Tryd.underlying32 infoU8w rfl hs h hy (ys.map bv) hok.len hok.nil hok.src hok.one (by omega) (by unfold maxLen; omega) fun a' c' w' h' => hK a' c' w' _ (Lib.hid ⟨rfl, by rw [List.length_append]; omega, ?_⟩)
  rw [List.map_append]
  have h2 : Sat W w' (sep (osl 5 1 x m cc (ys.map bv)) (sep (osl 5 1 a' (n + m) c' (xs.map bv ++ ys.map bv)) A)) := by simpa only [sep_comm, sep_lcomm, sep_assoc] using h'
  exact h2.forget_osl
set_option maxRecDepth 100000 in
set_option maxHeartbeats 8000000 in
theorem qencode_spec {W w : World} {A : Assn} {I : Mem} (v : Value) (p : Prf) (h : Sat W w (sep (kn I) A)) (hv : prfR I v p) (hp : PrfOK p) :
    Calls Tryd.prog 35 #[v] w fun e w' => ∃ a c, e = .returned (.slice a (encP p).length c) ∧ Sat W w' (sep (osl 5 1 a (encP p).length c ((encP p).map bv)) (sep (kn I) A)) := by
  obtain ⟨v1, v2, v3, rfl, r1, r2, r3⟩ := hv
  obtain ⟨la, lc, rfl, hw1, -⟩ := hs_rel.1 r1
  obtain ⟨ra, rc, rfl, hw2, -⟩ := hs_rel.1 r2
  obtain ⟨sa, sc, rfl, -⟩ := bytes_rel.1 r3
  obtain ⟨nl, hnl⟩ : ∃ z, z = p.l.length := ⟨_, rfl⟩
  obtain ⟨nr, hnr⟩ : ∃ z, z = p.r.length := ⟨_, rfl⟩
  obtain ⟨ns, hns⟩ : ∃ z, z = p.s.length := ⟨_, rfl⟩
  rw [← hnl] at r1 hw1 ⊢
  rw [← hnr] at r2 hw2 ⊢
  rw [← hns] at r3 ⊢
  have hnl6 : nl ≤ 1000000 := by rw [hnl]; exact hp.l
  have hnr6 : nr ≤ 1000000 := by rw [hnr]; exact hp.r
  have hns6 : ns ≤ 1000000 := by rw [hns]; exact hp.s
  obtain ⟨x, hx⟩ : ∃ x, x = w.heap.size := ⟨_, rfl⟩
  have h1 := h.alloc (.cells #[.slice la nl lc, .slice ra nr rc, .slice sa ns sc] 49)
  rw [← hx] at h1
  obtain ⟨w1, hw1'⟩ : ∃ w1, w1 = w.alloc (.cells #[.slice la nl lc, .slice ra nr rc, .slice sa ns sc] 49) := ⟨_, rfl⟩
  rw [← hw1'] at h1
  obtain ⟨J, hJ, hbx, h2⟩ := h1.settle.learn
  have hcx : ∀ w', Ext J w' → w'.cell? ⟨x, 0, none⟩ = some (.slice la nl lc) ∧ w'.cell? ⟨x, 1, none⟩ = some (.slice ra nr rc) ∧ w'.cell? ⟨x, 2, none⟩ = some (.slice sa ns sc) := fun w' he =>
    ⟨cell_of_row w' x 0 _ _ _ (he _ _ hbx), cell_of_row w' x 1 _ _ _ (he _ _ hbx), cell_of_row w' x 2 _ _ _ (he _ _ hbx)⟩
  have c2 := (hcx w1 h2.ext).2.2
  have HR := Lib.hid (rraw_spec (.slice sa ns sc) p.s h2 (rBytes.mono hJ r3) (by rw [← hns]; omega))
  have HX := Lib.hid (And.intro hx hw1')
  have HN := Lib.hid (And.intro hnl (And.intro hnr hns))
  have HP := Lib.hid (And.intro hp (And.intro hJ (And.intro (rHs.mono hJ r1) (rHs.mono hJ r2))))
  have HCX := Lib.hid hcx
  have HSL := Lib.hid (encR_lenQ p.s hp.s)
  clear h h1 h2 r1 r2 r3 hx hw1' hnl hnr hns hp hJ hbx hcx hw1 hw2
  go_enter Tryd.func35, Tryd.ntmps35
  go_upto_region 1 with (fail)
  rw [← HX.out.2, ← HX.out.1]
  go_wp2_with fail
  refine HR.out.mono ?_
  rintro e w2 ⟨a1, c1, rfl, h3⟩
  obtain ⟨B1, hB1⟩ : ∃ B, B = encR p.s := ⟨_, rfl⟩
  rw [← hB1] at h3
  obtain ⟨n1, hn1⟩ : ∃ n, n = B1.length := ⟨_, rfl⟩
  rw [← hB1, ← hn1]
  rw [← hn1] at h3
  have hB1l : n1 ≤ 1000010 := by rw [hn1, hB1]; have := HSL.out; have := HN.out; omega
  have HB1 := Lib.hid (And.intro hB1 hn1)
  have H3 := Lib.hid h3
  clear HR c2 hB1 hn1 h3
  have HU4 := Lib.hid (rint_spec (nl : Int) (by omega) (by omega) H3.out)
  have L4 := Lib.hid (encI_length (nl : Int) (by omega) (by omega))
  have d3 := HCX.out _ H3.out.p1.ext
  obtain ⟨d30, d31, d32⟩ := d3
  go_wp2_with fail
  refine HU4.out.mono ?_
  rintro e w4 ⟨a4, c4, rfl, h4⟩
  obtain ⟨I4, hI4⟩ : ∃ B, B = PA.encI (nl : Int) := ⟨_, rfl⟩
  rw [← hI4] at h4 L4
  rw [← hI4]
  obtain ⟨m4, hm4⟩ : ∃ n, n = I4.length := ⟨_, rfl⟩
  rw [← hm4] at h4 L4
  rw [← hm4]
  have h4B : Sat W w4 (sep (osl 5 1 a1 n1 c1 (B1.map bv)) (sep (osl 5 1 a4 m4 c4 (I4.map bv)) (sep (kn J) A))) := by simpa only [sep_comm, sep_lcomm, sep_assoc] using h4
  have HI4 := Lib.hid (And.intro hI4 hm4)
  clear h4 hI4 hm4 HU4 H3
  go_wp2_with (at_builtin; (refine wpl_app_b rfl (.tmp 9) (.tmp 13) rfl rfl rfl h4B (by have := L4.out; omega) ?_))
  intro a5 c5 w5 z5 h5'
  have H5 : Hid (n1 + m4 = (B1 ++ I4 ++ uvsE (p.l.take 0)).length ∧ Sat W w5 (sep (osl 5 1 a5 (n1 + m4) c5 ((B1 ++ I4 ++ uvsE (p.l.take 0)).map bv)) (sep (kn J) A))) := Lib.hid (by rw [List.take_zero, show uvsE [] = [] from rfl, List.append_nil, ← h5'.out.1]; exact h5'.out.2)
  obtain ⟨n5, hn5'⟩ : ∃ n, n = n1 + m4 := ⟨_, rfl⟩
  rw [← hn5'] at H5
  rw [← hn5']
  have hnb5 : n5 ≤ 1000020 + 0 := by have := L4.out; omega
  clear h4B h5' hn5' d30 d31 d32
  obtain ⟨Ll0, hL⟩ : ∃ Ll0, Ll0 = p.l := ⟨_, rfl⟩
  rw [← hL] at H5
  have hLn : nl = Ll0.length := by rw [hL]; exact HN.out.1
  have hLb : ∀ h ∈ Ll0, h < 18446744073709551616 := by rw [hL]; exact HP.out.1.bl
  have hrel : rHs.rel J [.slice la nl lc] Ll0 := by rw [hL]; exact HP.out.2.2.1
  have HL := Lib.hid (And.intro hLn (And.intro hLb (And.intro hrel hL)))
  clear hLn hLb hrel hL
  obtain ⟨C5, hC5⟩ : ∃ C, C = B1 ++ I4 := ⟨_, rfl⟩
  rw [← hC5] at H5
  have hC5l : C5.length ≤ 1000020 + 0 := by have := H5.out.1; rw [List.take_zero, show uvsE [] = [] from rfl, List.append_nil] at this; omega
  have HC5 := Lib.hid (And.intro hC5 hC5l)
  clear hC5 hC5l
  go_wp2_with fail
  go_loopw [3, 4] (fun ov kv wr => ∃ (k : Nat) (a : Option Addr) (n c : Nat), k ≤ nl ∧ ov = .slice a n c ∧ kv = .int .i64 (k : Nat) ∧ Hid (n = (C5 ++ uvsE (Ll0.take k)).length ∧ Sat W wr (sep (osl 5 1 a n c ((C5 ++ uvsE (Ll0.take k)).map bv)) (sep (kn J) A)))) (fun _ kv _ => nl - (intOf kv).toNat)
  case atStart => exact ⟨0, _, _, _, Nat.zero_le _, rfl, rfl, H5⟩
  case round =>
    clear H5
    obtain ⟨k, a, n, c, hk, rfl, rfl, HS⟩ := hrel
    obtain ⟨d0, d1, d2⟩ := HCX.out wr HS.out.2.p1.ext
    by_cases hlt : k < nl
    · have g1 : (k : Int) < (nl : Int) := by omega
      have hkL : k < Ll0.length := by rw [← HL.out.1]; exact hlt
      obtain ⟨gb, go, e0, hc⟩ := hs_ext HL.out.2.2.1 (fun e => by rw [e] at hkL; simp at hkL)
      rw [e0] at d0
      have k2 := hc wr HS.out.2.p1.ext k hkL
      have htk : Ll0.take (k + 1) = Ll0.take k ++ [Ll0[k]] := List.take_succ_eq_append_getElem hkL
      have hlt64 := HL.out.2.1 _ (List.getElem_mem hkL)
      obtain ⟨hh, hhh⟩ : ∃ z, z = Ll0[k] := ⟨_, rfl⟩
      rw [← hhh] at k2 htk hlt64
      have hul := uvsE_len (Ll0.take k) (fun h hh => HL.out.2.1 h (List.mem_of_mem_take hh))
      rw [List.length_take] at hul
      have hnb : n ≤ 11000020 + 0 := by have := HS.out.1; rw [List.length_append] at this; have := HC5.out.2; omega
      have HU := Lib.hid (ruint_spec hh hlt64 HS.out.2)
      have hu10 := Lib.uvarint_length64 hlt64
      have HT := Lib.hid htk
      have HS0 := Lib.hid HS.out.1
      have HE := Lib.hid e0
      clear hc htk hlt64 hhh hul hkL HS e0
      go_wp2_with fail
      refine HU.out.mono ?_
      rintro e w9 ⟨a9, c9, rfl, h9⟩
      obtain ⟨I9, hI9⟩ : ∃ B, B = Lib.uvarint hh := ⟨_, rfl⟩
      rw [← hI9] at h9 hu10
      rw [← hI9]
      obtain ⟨m9, hm9⟩ : ∃ n, n = I9.length := ⟨_, rfl⟩
      rw [← hm9] at h9 hu10
      rw [← hm9]
      have h9B : Sat W w9 (sep (osl 5 1 a n c ((C5 ++ uvsE (Ll0.take k)).map bv)) (sep (osl 5 1 a9 m9 c9 (I9.map bv)) (sep (kn J) A))) := by simpa only [sep_comm, sep_lcomm, sep_assoc] using h9
      have H9 := Lib.hid hI9
      clear h9 hI9 hm9 HU d0 d1 d2 k2
      go_wp2_with (at_builtin; (refine wpl_app_b rfl (.tmp 22) (.tmp 28) rfl rfl rfl h9B (by omega) ?_))
      intro a8 c8 w8 z8 h8'
      have H8 : Hid (n + m9 = (C5 ++ uvsE (Ll0.take (k + 1))).length ∧ Sat W w8 (sep (osl 5 1 a8 (n + m9) c8 ((C5 ++ uvsE (Ll0.take (k + 1))).map bv)) (sep (kn J) A))) := Lib.hid (by rw [HT.out, uvsE_snoc, ← H9.out, ← List.append_assoc, show C5 ++ uvsE (Ll0.take k) ++ I9 = z8 from by rw [h8'.out.1]; simp]; exact h8'.out.2)
      clear h9B h8'
      go_wp2_with fail
      go_roundw
      case rel => exact ⟨k + 1, a8, n + m9, c8, by omega, rfl, by go_num, H8⟩
      case measure => simp only [intOf]; omega
    · have g1 : ¬ (k : Int) < (nl : Int) := by omega
      have htk : Ll0.take k = Ll0 := List.take_of_length_le (by rw [← HL.out.1]; omega)
      have H13 : Hid (n = (C5 ++ uvsE p.l).length ∧ Sat W wr (sep (osl 5 1 a n c ((C5 ++ uvsE p.l).map bv)) (sep (kn J) A))) := Lib.hid (by
        have := HS.out
        rw [htk, HL.out.2.2.2] at this
        exact this)
      clear htk HS
      obtain ⟨B13, hB13⟩ : ∃ B, B = C5 ++ uvsE p.l := ⟨_, rfl⟩
      have hB13l : B13.length ≤ 12000020 + 0 := by
        have h1 := uvsE_len p.l (HP.out.1.bl)
        have h2 := HN.out.1
        rw [hB13, List.length_append]; have := HC5.out.2; omega
      rw [← hB13] at H13
      have h13n := H13.out.1
      have HB13 := Lib.hid (And.intro hB13 hB13l)
      have h13l : n ≤ 12000020 + 0 := by rw [h13n]; exact hB13l
      clear hB13 hB13l h13n
      obtain ⟨n13, hn13⟩ : ∃ z, z = n := ⟨_, rfl⟩
      obtain ⟨w13, hw13⟩ : ∃ z, z = wr := ⟨_, rfl⟩
      obtain ⟨a13, ha13⟩ : ∃ z, z = a := ⟨_, rfl⟩
      obtain ⟨c13, hc13⟩ : ∃ z, z = c := ⟨_, rfl⟩
      rw [← hn13, ← hw13, ← ha13, ← hc13] at H13
      subst n wr a c
      clear d0 d1 d2 HL
      have HU14 := Lib.hid (rint_spec (nr : Int) (by omega) (by omega) H13.out.2)
      have L14 := Lib.hid (encI_length (nr : Int) (by omega) (by omega))
      have d13 := HCX.out _ H13.out.2.p1.ext
      obtain ⟨d130, d131, d132⟩ := d13
      go_wp2_with fail
      refine HU14.out.mono ?_
      rintro e w14 ⟨a14, c14, rfl, h14⟩
      obtain ⟨I14, hI14⟩ : ∃ B, B = PA.encI (nr : Int) := ⟨_, rfl⟩
      rw [← hI14] at h14 L14
      rw [← hI14]
      obtain ⟨m14, hm14⟩ : ∃ n, n = I14.length := ⟨_, rfl⟩
      rw [← hm14] at h14 L14
      rw [← hm14]
      have h14B : Sat W w14 (sep (osl 5 1 a13 n13 c13 (B13.map bv)) (sep (osl 5 1 a14 m14 c14 (I14.map bv)) (sep (kn J) A))) := by simpa only [sep_comm, sep_lcomm, sep_assoc] using h14
      have HI14 := Lib.hid (And.intro hI14 hm14)
      clear h14 hI14 hm14 HU14 H13
      go_wp2_with (at_builtin; (refine wpl_app_b rfl (.tmp 30) (.tmp 34) rfl rfl rfl h14B (by have := L14.out; omega) ?_))
      intro a15 c15 w15 z15 h15'
      have H15 : Hid (n13 + m14 = (B13 ++ I14 ++ uvsE (p.r.take 0)).length ∧ Sat W w15 (sep (osl 5 1 a15 (n13 + m14) c15 ((B13 ++ I14 ++ uvsE (p.r.take 0)).map bv)) (sep (kn J) A))) := Lib.hid (by rw [List.take_zero, show uvsE [] = [] from rfl, List.append_nil, ← h15'.out.1]; exact h15'.out.2)
      obtain ⟨n15, hn15'⟩ : ∃ n, n = n13 + m14 := ⟨_, rfl⟩
      rw [← hn15'] at H15
      rw [← hn15']
      have hnb15 : n15 ≤ 1000020 + 12000000 := by have := L14.out; omega
      clear h14B h15' hn15' d130 d131 d132
      obtain ⟨Lr0, hL⟩ : ∃ Lr0, Lr0 = p.r := ⟨_, rfl⟩
      rw [← hL] at H15
      have hLn : nr = Lr0.length := by rw [hL]; exact HN.out.2.1
      have hLb : ∀ h ∈ Lr0, h < 18446744073709551616 := by rw [hL]; exact HP.out.1.br
      have hrel : rHs.rel J [.slice ra nr rc] Lr0 := by rw [hL]; exact HP.out.2.2.2
      have HL := Lib.hid (And.intro hLn (And.intro hLb (And.intro hrel hL)))
      clear hLn hLb hrel hL
      obtain ⟨C15, hC15⟩ : ∃ C, C = B13 ++ I14 := ⟨_, rfl⟩
      rw [← hC15] at H15
      have hC15l : C15.length ≤ 1000020 + 12000000 := by have := H15.out.1; rw [List.take_zero, show uvsE [] = [] from rfl, List.append_nil] at this; omega
      have HC15 := Lib.hid (And.intro hC15 hC15l)
      clear hC15 hC15l
      go_wp2_with fail
      go_loopw [3, 5] (fun ov kv wr => ∃ (k : Nat) (a : Option Addr) (n c : Nat), k ≤ nr ∧ ov = .slice a n c ∧ kv = .int .i64 (k : Nat) ∧ Hid (n = (C15 ++ uvsE (Lr0.take k)).length ∧ Sat W wr (sep (osl 5 1 a n c ((C15 ++ uvsE (Lr0.take k)).map bv)) (sep (kn J) A)))) (fun _ kv _ => nr - (intOf kv).toNat)
      case atStart => exact ⟨0, _, _, _, Nat.zero_le _, rfl, rfl, H15⟩
      case round =>
        clear H15
        obtain ⟨k, a, n, c, hk, rfl, rfl, HS⟩ := hrel
        obtain ⟨d0, d1, d2⟩ := HCX.out wr HS.out.2.p1.ext
        by_cases hlt : k < nr
        · have g1 : (k : Int) < (nr : Int) := by omega
          have hkL : k < Lr0.length := by rw [← HL.out.1]; exact hlt
          obtain ⟨gb, go, e0, hc⟩ := hs_ext HL.out.2.2.1 (fun e => by rw [e] at hkL; simp at hkL)
          rw [e0] at d1
          have k2 := hc wr HS.out.2.p1.ext k hkL
          have htk : Lr0.take (k + 1) = Lr0.take k ++ [Lr0[k]] := List.take_succ_eq_append_getElem hkL
          have hlt64 := HL.out.2.1 _ (List.getElem_mem hkL)
          obtain ⟨hh, hhh⟩ : ∃ z, z = Lr0[k] := ⟨_, rfl⟩
          rw [← hhh] at k2 htk hlt64
          have hul := uvsE_len (Lr0.take k) (fun h hh => HL.out.2.1 h (List.mem_of_mem_take hh))
          rw [List.length_take] at hul
          have hnb : n ≤ 11000020 + 12000000 := by have := HS.out.1; rw [List.length_append] at this; have := HC15.out.2; omega
          have HU := Lib.hid (ruint_spec hh hlt64 HS.out.2)
          have hu10 := Lib.uvarint_length64 hlt64
          have HT := Lib.hid htk
          have HS0 := Lib.hid HS.out.1
          have HE := Lib.hid e0
          clear hc htk hlt64 hhh hul hkL HS e0
          go_wp2_with fail
          refine HU.out.mono ?_
          rintro e w9 ⟨a9, c9, rfl, h9⟩
          obtain ⟨I9, hI9⟩ : ∃ B, B = Lib.uvarint hh := ⟨_, rfl⟩
          rw [← hI9] at h9 hu10
          rw [← hI9]
          obtain ⟨m9, hm9⟩ : ∃ n, n = I9.length := ⟨_, rfl⟩
          rw [← hm9] at h9 hu10
          rw [← hm9]
          have h9B : Sat W w9 (sep (osl 5 1 a n c ((C15 ++ uvsE (Lr0.take k)).map bv)) (sep (osl 5 1 a9 m9 c9 (I9.map bv)) (sep (kn J) A))) := by simpa only [sep_comm, sep_lcomm, sep_assoc] using h9
          have H9 := Lib.hid hI9
          clear h9 hI9 hm9 HU d0 d1 d2 k2
          go_wp2_with (at_builtin; (refine wpl_app_b rfl (.tmp 43) (.tmp 49) rfl rfl rfl h9B (by omega) ?_))
          intro a8 c8 w8 z8 h8'
          have H8 : Hid (n + m9 = (C15 ++ uvsE (Lr0.take (k + 1))).length ∧ Sat W w8 (sep (osl 5 1 a8 (n + m9) c8 ((C15 ++ uvsE (Lr0.take (k + 1))).map bv)) (sep (kn J) A))) := Lib.hid (by rw [HT.out, uvsE_snoc, ← H9.out, ← List.append_assoc, show C15 ++ uvsE (Lr0.take k) ++ I9 = z8 from by rw [h8'.out.1]; simp]; exact h8'.out.2)
          clear h9B h8'
          go_wp2_with fail
          go_roundw
          case rel => exact ⟨k + 1, a8, n + m9, c8, by omega, rfl, by go_num, H8⟩
          case measure => simp only [intOf]; omega
        · have g1 : ¬ (k : Int) < (nr : Int) := by omega
          have htk : Lr0.take k = Lr0 := List.take_of_length_le (by rw [← HL.out.1]; omega)
          have H16 : Hid (n = (C15 ++ uvsE p.r).length ∧ Sat W wr (sep (osl 5 1 a n c ((C15 ++ uvsE p.r).map bv)) (sep (kn J) A))) := Lib.hid (by
            have := HS.out
            rw [htk, HL.out.2.2.2] at this
            exact this)
          clear htk HS
          obtain ⟨B16, hB16⟩ : ∃ B, B = C15 ++ uvsE p.r := ⟨_, rfl⟩
          have hB16l : B16.length ≤ 12000020 + 12000000 := by
            have h1 := uvsE_len p.r (HP.out.1.br)
            have h2 := HN.out.2.1
            rw [hB16, List.length_append]; have := HC15.out.2; omega
          rw [← hB16] at H16
          have h16n := H16.out.1
          have HB16 := Lib.hid (And.intro hB16 hB16l)
          have h16l : n ≤ 12000020 + 12000000 := by rw [h16n]; exact hB16l
          clear hB16 hB16l h16n
          obtain ⟨n16, hn16⟩ : ∃ z, z = n := ⟨_, rfl⟩
          obtain ⟨w16, hw16⟩ : ∃ z, z = wr := ⟨_, rfl⟩
          obtain ⟨a16, ha16⟩ : ∃ z, z = a := ⟨_, rfl⟩
          obtain ⟨c16, hc16⟩ : ∃ z, z = c := ⟨_, rfl⟩
          rw [← hn16, ← hw16, ← ha16, ← hc16] at H16
          subst n wr a c
          clear HL
          have hfin : B16 = encP p := by
            rw [HB16.out.1, HC15.out.1, HB13.out.1, HC5.out.1, HB1.out.1, HI4.out.1, HI14.out.1]
            unfold encP hvsE
            rw [← HN.out.1, ← HN.out.2.1]
            simp only [List.append_assoc]
          have HF := Lib.hid hfin
          clear hfin
          go_wp2_with fail
          go_ret
          have h7 := H16.out
          rw [HF.out] at h7
          rw [← h7.1]
          refine ⟨a16, c16, rfl, ?_⟩
          have h8 := (show Sat W w16 (sep (kn J) (sep (osl 5 1 a16 n16 c16 ((encP p).map bv)) A)) by simpa only [sep_comm, sep_lcomm, sep_assoc] using h7.2).kn_mono HP.out.2.1
          simpa only [sep_comm, sep_lcomm, sep_assoc] using h8
end Go.Proofs.YtcmjbjlliehdiaaDoor
