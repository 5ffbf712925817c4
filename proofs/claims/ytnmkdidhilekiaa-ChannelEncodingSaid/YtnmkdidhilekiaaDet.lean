/- ChannelDetects, the walk. -/
import Derived.Test.YtnmkdidhilekiaaDt2
import Derived.Test.YtnmkdidhilekiaaE5
import Derived.Test.YtnmkdidhilekiaaCh7
import Derived.Deep.DeepCutAuto
namespace Go.Proofs.Ytnmkdidhilekiaa
open Go.RowKit PA
/-- A row of bytes that came in. -/
def IsArgB (w : World) (a : Option Addr) (len cap : Nat) (zs : List Int) : Prop :=
  (a = none ∧ len = 0 ∧ cap = 0 ∧ zs = []) ∨
  ∃ x, a = some x ∧ len ≤ cap ∧ cap ≤ maxLen ∧ zs.length = cap ∧ (∀ i, i < zs.length → w.cell? (x.add i) = some (.int .u8 (zs.getD i 0))) ∧ ∀ n ∈ zs, (Lit.int .u8 n).wf = true
theorem argB {w : World} {a : Option Addr} {len cap : Nat} {zs : List Int} (h : IsArgB w a len cap zs) :
    ∃ l : List UInt8, len = l.length ∧ Swf a len cap ∧ ∀ b, a = some b → ∀ j u, (l.map bv)[j]? = some u → w.cell? (b.add j) = some u := by
  rcases h with ⟨rfl, rfl, rfl, rfl⟩ | ⟨x, rfl, h1, h2, h3, h4, h5⟩
  · exact ⟨[], rfl, ⟨Nat.le_refl _, Nat.zero_le _, fun _ => rfl⟩, fun b hb => (by cases hb)⟩
  · refine ⟨(zs.take len).map fun n => UInt8.ofNat n.toNat, by simp; omega, ⟨h1, h2, fun e => by cases e⟩, fun b hb j u hu => ?_⟩
    cases hb
    rw [List.map_map, List.getElem?_map, List.getElem?_take] at hu
    split at hu
    · rename_i hj
      have hjz : j < zs.length := by omega
      rw [List.getElem?_eq_getElem hjz] at hu
      rw [h4 j hjz, ← hu]
      have hw := h5 zs[j] (List.getElem_mem hjz)
      have hb2 : 0 ≤ zs[j] ∧ zs[j] ≤ 255 := bounds_u8 hw
      have e1 : zs.getD j 0 = zs[j] := by rw [List.getD_eq_getElem?_getD, List.getElem?_eq_getElem hjz]; rfl
      rw [e1]
      show some (Value.int .u8 zs[j]) = some (Value.int .u8 ((UInt8.ofNat zs[j].toNat).toNat : Int))
      congr 2
      simp; omega
    · cases hu
theorem xor_u8 (a b : Nat) (ha : a < 256) (hb : b < 256) : bits .xor .u8 (a : Int) (b : Int) = ((a ^^^ b : Nat) : Int) ∧ a ^^^ b < 256 := by
  have hx : a ^^^ b < 256 := Nat.xor_lt_two_pow (n := 8) ha hb
  refine ⟨?_, hx⟩
  show IntKind.u8.wrap ((BitVec.ofInt 8 (a : Int) ^^^ BitVec.ofInt 8 (b : Int)).toNat : Int) = _
  rw [BitVec.toNat_xor, BitVec.ofInt_natCast, BitVec.ofInt_natCast, BitVec.toNat_ofNat, BitVec.toNat_ofNat, Nat.mod_eq_of_lt (by simpa using ha), Nat.mod_eq_of_lt (by simpa using hb)]
  exact wraps_u8 _ (by omega) (by have : a ^^^ b < 2 ^ 8 := hx
                                  exact_mod_cast this)
/-- A byte turned by what is not 0 is another byte. -/
theorem xor_ne (a b : Nat) (hb : b ≠ 0) : a ^^^ b ≠ a := by
  intro h
  have := xor_cancel a b 0 (by rw [h, Nat.xor_zero])
  exact hb this
set_option maxHeartbeats 4000000 in
set_option maxRecDepth 100000 in
theorem channelDetects_walk (a0 a1 : Int) (a2 : Option Addr) (len2 cap2 : Nat) (z2 : List Int) (a3 a4 : Int) (w : World) (w0 : (Lit.int .i64 a0).wf = true) (w1 : (Lit.int .i64 a1).wf = true) (w2 : IsArgB w a2 len2 cap2 z2) (w3 : (Lit.int .i64 a3).wf = true) (w4 : (Lit.int .u8 a4).wf = true) :
    Calls Try.prog 9 #[.int .i64 a0, .int .i64 a1, .slice a2 len2 cap2, .int .i64 a3, .int .u8 a4] w fun e w' => e = .returned (.bool true) ∧ Below w.heap.size w w' := by
  obtain ⟨b0, b1⟩ := i64_of_wf w0
  obtain ⟨b2, b3⟩ := i64_of_wf w1
  obtain ⟨b4, b5⟩ := i64_of_wf w3
  have b6 : 0 ≤ a4 ∧ a4 ≤ 255 := bounds_u8 w4
  obtain ⟨l, rfl, hsw, hsrc⟩ := argB w2
  have HA := Lib.hid (aroundI_lt a0 100000 (by omega))
  have HB := Lib.hid (aroundI_lt a1 100000 (by omega))
  have c0 := Lib.hid (around_spec a0 100000 w b0 b1 (by omega) (by omega))
  have c1 := Lib.hid (around_spec a1 100000 w b2 b3 (by omega) (by omega))
  obtain ⟨x0, hx0⟩ : ∃ x0, x0 = aroundI a0 100000 := ⟨_, rfl⟩
  obtain ⟨x1, hx1⟩ : ∃ x1, x1 = aroundI a1 100000 := ⟨_, rfl⟩
  rw [← hx0] at HA c0
  rw [← hx1] at HB c1
  have c2 := Lib.hid (few_any a2 cap2 l 200 (Sat.start w) hsw hsrc (by omega))
  have hwr : IntKind.i64.wrap (1 + x0) = 1 + x0 := IntWalk.i64_in _ (by have := HA.out; omega)
  have HB3 := Lib.hid b4
  have HB4 := Lib.hid b5
  have HB6 := Lib.hid b6
  have h0I : (0 : Int) ≤ x0 := HA.out.1
  have h1I : x0 < 100000 := HA.out.2
  clear w0 w1 w2 w3 w4 hx0 hx1 b0 b1 b2 b3 b4 b5 b6 hsw hsrc
  go_enter Try.func9, Try.ntmps9
  go_wp2_with fail
  refine c0.out.mono ?_
  rintro e w1 ⟨rfl, rfl⟩
  go_wp2_with fail
  refine c1.out.mono ?_
  rintro e w1 ⟨rfl, rfl⟩
  go_wp2_with fail
  refine c2.out.mono ?_
  rintro e w1 ⟨a5, c5, rfl, hS⟩
  obtain ⟨b, hb⟩ : ∃ b, b = l.take 200 := ⟨_, rfl⟩
  rw [← hb] at hS
  rw [← hb]
  have hbl : b.length ≤ 200 := by rw [hb, List.length_take]; omega
  obtain ⟨I0, hS1⟩ := hS.bytes_of_osl.2.know
  obtain ⟨I, -, hbb, hS2⟩ := hS1.p1.learn
  have hS3 := hS2.alloc0 (.cells #[.int .i64 (1 + x0), .int .i64 x1, .slice a5 b.length c5] 44)
  have hval : validP ⟨1 + x0, x1, b⟩ = true := by
    unfold validP validB
    have := HA.out; have := HB.out
    simp; omega
  have hI1 : I64 (1 + x0) := ⟨by have := HA.out; omega, by have := HA.out; omega⟩
  have hI2 : I64 x1 := ⟨by have := HB.out; omega, by have := HB.out; omega⟩
  have henc := encode_ok ⟨1 + x0, x1, b⟩ (.slice a5 b.length c5) hS3 hbb hval hI1 hI2 (by show b.length ≤ _; omega)
  obtain ⟨cb, hcb⟩ : ∃ cb, cb = coreP ⟨1 + x0, x1, b⟩ := ⟨_, rfl⟩
  have hcbl : cb.length ≤ 300 := by rw [hcb]; exact Nat.le_trans (coreP_length _ hI1 hI2 (by show b.length ≤ _; omega)) (by show b.length + 30 ≤ 300; omega)
  rw [← hcb] at henc
  obtain ⟨h, hh⟩ : ∃ h, h = bytesN parcel cb := ⟨_, rfl⟩
  have hhl : h < 18446744073709551616 := by rw [hh]; exact bytesN_lt _ _
  have hX : wholeP cb = encR cb ++ Lib.uvarint h := by rw [wholeP, ← hh]
  have hXl := wholeP_length cb (by omega)
  obtain ⟨X, hXd⟩ : ∃ X, X = wholeP cb := ⟨_, rfl⟩
  rw [← hXd] at henc hX hXl
  have HENC := Lib.hid henc
  have HX := Lib.hid hX
  have HXL := Lib.hid hXl
  have HH := Lib.hid hh
  have HHL := Lib.hid hhl
  have HCBL := Lib.hid hcbl
  clear c0 c1 c2 hS hS1 hS2 hb hbl hbb hS3 hval hI1 hI2 henc hcb hcbl hh hhl hX hXl hXd
  go_wp2_with fail
  refine HENC.out.mono ?_
  rintro e w2 ⟨ax, cx, rfl, hE⟩
  have hsw := hE.swf_of_osl
  have hsrc := hE.osl_src
  have hrd := Lib.hid (read_any ax cx X hE hsw hsrc (by have := HXL.out; have := HCBL.out; omega))
  obtain ⟨n, hn⟩ : ∃ n, n = X.length := ⟨_, rfl⟩
  rw [← hn] at hrd
  rw [← hn]
  have HN := Lib.hid hn
  clear hE hsw hsrc hn
  go_wp2_with fail
  refine hrd.out.mono ?_
  rintro e w3 ⟨p1, rfl, hR⟩
  have hsX : RSt.small (.ok X) := by show X.length ≤ _; have := HXL.out; have := HCBL.out; omega
  have hraw := rdraw_spec p1 _ hR hsX
  have hst : stR (.ok X) = (cb, .ok (Lib.uvarint h)) := by rw [HX.out]; exact stR_of _ _ (by have := HCBL.out; omega)
  rw [hst] at hraw
  have HRAW := Lib.hid hraw
  clear hrd hR hsX hraw hst
  go_wp2_with fail
  refine HRAW.out.mono ?_
  rintro e w4 ⟨vc, rfl, hS4⟩
  have h4 : Sat w w4 (sep (rBytes.is [vc] cb) (sep (kn I) (sep (isRd 101 p1 (.ok (Lib.uvarint h))) (osl 5 1 ax n cx (X.map bv))))) := by
    have : Sat w w4 (sep (rBytes.is [vc] cb) (sep (isRd 101 p1 (.ok (Lib.uvarint h))) (sep (osl 5 1 ax n cx (X.map bv)) (sep (kn I) emp)))) := hS4
    rw [sep_emp] at this
    simpa only [sep_comm, sep_lcomm, sep_assoc] using this
  obtain ⟨J, hle, hvc, hS5⟩ := h4.learn
  obtain ⟨ac, cc, rfl, -, -⟩ := bytes_rel.1 hvc
  have hu5 : Sat w w4 (sep (isRd 101 p1 (.ok (Lib.uvarint h))) (sep (kn J) (osl 5 1 ax n cx (X.map bv)))) := by simpa only [sep_comm, sep_lcomm, sep_assoc] using hS5
  have hui := rduint_spec p1 _ hu5 (by show (Lib.uvarint h).length ≤ _; have := Lib.uvarint_length64 HHL.out; omega)
  rw [stU_of h HHL.out] at hui
  have HUI := Lib.hid hui
  have HVC := Lib.hid hvc
  clear hS4 h4 hle hvc hS5 hu5 hui HRAW
  go_wp2_with fail
  refine HUI.out.mono ?_
  rintro e w5 ⟨rfl, hS6⟩
  have hW := newWr hS6
  obtain ⟨p2, hp2⟩ : ∃ p2, p2 = w5.heap.size := ⟨_, rfl⟩
  obtain ⟨w6, hw6⟩ : ∃ w6, w6 = w5.alloc (.cells #[.slice none 0 0] 78) := ⟨_, rfl⟩
  rw [← hp2, ← hw6] at hW
  have HP2 := Lib.hid hp2
  have HW6 := Lib.hid hw6
  clear hS6 hp2 hw6 HUI
  go_upto_region 9 with (fail)
  rw [← HP2.out, ← HW6.out]
  obtain ⟨cl, hcl⟩ : ∃ cl, cl = cb.length := ⟨_, rfl⟩
  have hwr2 : IntKind.u64.wrap (cl : Int) = (cl : Nat) := wraps_u64 _ (by omega) (by have := HCBL.out; omega)
  rw [← hcl]
  have HCL := Lib.hid hcl
  clear hcl
  go_wp2_with fail
  refine (wuint_spec p2 [] cl (by have := HCBL.out; have := HCL.out; omega) hW (by simp)).mono ?_
  rintro e w7 ⟨rfl, hS7⟩
  rw [List.nil_append] at hS7
  clear hW hwr2
  obtain ⟨ah, hah⟩ : ∃ ah, ah = (Lib.uvarint cl).length := ⟨_, rfl⟩
  have hahl : ah ≤ 10 := by rw [hah]; exact Lib.uvarint_length64 (by have := HCBL.out; have := HCL.out; omega)
  have hdn := wdone_spec p2 _ hS7 (by omega)
  rw [← hah] at hdn
  have HDN := Lib.hid hdn
  have HAH := Lib.hid hah
  have HAHL := Lib.hid hahl
  clear hS7 hah hahl hdn
  go_wp2_with fail
  refine HDN.out.mono ?_
  rintro e w8 ⟨a8, c8, rfl, hS8⟩
  have h8 : Sat w w8 (sep (isRd 101 p1 (.ok [])) (sep (kn J) (osl 5 1 ax n cx (X.map bv)))) := hS8.drop.drop
  clear hS8 HDN
  go_wp2_with fail
  refine (rdend_spec p1 _ h8 (by show (0 : Nat) ≤ _; omega)).mono ?_
  rintro e w9 ⟨rfl, hS9⟩
  have e0 : stE (.ok []) = 0 := rfl
  rw [e0]
  clear e0 h8
  have hh9 := hbytes_any ⟨#[112, 97, 114, 99, 101, 108]⟩ _ cb hS9.drop HVC.out (by decide) (by have := HCBL.out; omega)
  have hhs2 : bytesN (ByteArray.mk #[112, 97, 114, 99, 101, 108]).data.toList cb = h := by rw [HH.out]; rfl
  rw [hhs2] at hh9
  have HH9 := Lib.hid hh9
  have bz : ((h : Int) != (h : Int)) = false := by simp
  have hnl : n = ah + (cb ++ Lib.uvarint h).length := by
    rw [HN.out, HX.out, encR, List.append_assoc, List.length_append, HAH.out, HCL.out]
  obtain ⟨m, hm⟩ : ∃ m, m = (cb ++ Lib.uvarint h).length := ⟨_, rfl⟩
  have hmp : 1 ≤ m := by rw [hm, List.length_append]; have := Lib.uvarint_pos h; omega
  have hml : m ≤ 320 := by rw [hm, List.length_append]; have := Lib.uvarint_length64 HHL.out; have := HCBL.out; omega
  rw [← hm] at hnl
  have hnah : ¬ n ≤ ah := by omega
  have hsub : (n : Int) - (ah : Int) = (m : Int) := by omega
  have HNL := Lib.hid hnl
  have HM := Lib.hid hm
  have HMP := Lib.hid hmp
  have HML := Lib.hid hml
  clear hS9 hh9 hhs2 hnl hm hmp hml
  rw [← HCL.out] at HH9
  go_wp2_with fail
  refine HH9.out.mono ?_
  rintro e w10 ⟨rfl, hS10⟩
  clear HH9
  have hnI : (n : Int) ≤ 400 := by have := HNL.out; have := HML.out; have := HAHL.out; omega
  have hahI : (ah : Int) ≤ 10 := by have := HAHL.out; omega
  go_wp2_with fail
  refine (around_spec a3 m _ HB3.out HB4.out (by have := HMP.out; omega) (by have := HML.out; omega)).mono ?_
  rintro e w11 ⟨rfl, rfl⟩
  obtain ⟨e1, e2⟩ := aroundI_lt a3 (m : Int) (by have := HMP.out; omega)
  obtain ⟨j, hj⟩ : ∃ j : Nat, aroundI a3 m = j := ⟨(aroundI a3 m).toNat, by omega⟩
  rw [hj] at e1 e2 ⊢
  have hjm : j < (cb ++ Lib.uvarint h).length := by rw [← HM.out]; omega
  obtain ⟨k, hk⟩ : ∃ k, k = ah + j := ⟨_, rfl⟩
  have hkI : (ah : Int) + (j : Int) = (k : Int) := by omega
  have hkX : k < (X.map bv).length := by rw [List.length_map, ← HN.out]; have := HNL.out; omega
  have hkX2 : k < X.length := by rw [List.length_map] at hkX; exact hkX
  have hkn : (k : Int) < (n : Int) := by have := HNL.out; omega
  have hkw : IntKind.i64.wrap ((ah : Int) + (j : Int)) = (k : Int) := by rw [hkI]; exact IntWalk.i64_in _ (by omega)
  have hosl : Sat w w10 (sep (osl 5 1 ax n cx (X.map bv)) (kn J)) := by rw [sep_comm]; exact hS10
  obtain ⟨bp, hbp⟩ : ∃ bp : Nat, bp = (a4 % 255 + 1).toNat := ⟨_, rfl⟩
  have hbp1 : bp ≠ 0 ∧ bp < 256 := by have := HB6.out; omega
  obtain ⟨xk, hxk⟩ : ∃ xk, xk = X[k] := ⟨_, rfl⟩
  obtain ⟨y, hy⟩ : ∃ y : UInt8, y = UInt8.ofNat (xk.toNat ^^^ bp) := ⟨_, rfl⟩
  have hxor := xor_u8 xk.toNat bp xk.toNat_lt hbp1.2
  have hyv : y.toNat = xk.toNat ^^^ bp := by rw [hy, UInt8.toNat_ofNat']; exact Nat.mod_eq_of_lt hxor.2
  have hyx : bits .xor .u8 (xk.toNat : Int) (bp : Int) = (y.toNat : Int) := by rw [hxor.1, hyv]
  have hyne : y ≠ X[k] := by
    intro e
    have : y.toNat = xk.toNat := by rw [e, hxk]
    rw [hyv] at this
    exact xor_ne _ _ hbp1.1 this
  obtain ⟨g, hg, hgc, hgf, hset⟩ := hosl.osl_set k hkX (.int .u8 (y.toNat : Nat))
  subst hg
  rw [List.getElem_map, ← hxk] at hgc
  have hgc' : w10.cell? ⟨g, k, none⟩ = some (.int .u8 (xk.toNat : Nat)) := hgc
  have hset2 : (X.map bv).set k (.int .u8 (y.toNat : Nat)) = (X.set k y).map bv := by rw [List.map_set]; rfl
  rw [hset2] at hset
  have HSET := Lib.hid hset
  have HYNE := Lib.hid hyne
  have HYX := Lib.hid hyx
  have HBP := Lib.hid hbp
  have HJM := Lib.hid hjm
  have HK := Lib.hid hk
  have HKX := Lib.hid hkX2
  clear hset hset2 hyne hyx hbp hjm hk hgc hosl hkX hxor hyv hS10 hy hxk hkI e1 e2 hj
  go_wp2_with fail
  have hbpv : (1 + Int.tmod a4 255) % 256 = (bp : Int) := by
    have := HB6.out; have := HBP.out
    rw [Int.tmod_eq_emod_of_nonneg HB6.out.1]; omega
  rw [hbpv, HYX.out]
  have hS12 : Sat w (w10.setCell ⟨g, k, none⟩ (.int .u8 (y.toNat : Nat))) (sep (rBytes.is [.slice (some ⟨g, 0, none⟩) n cx] (X.set k y)) (sep (kn J) emp)) := by
    rw [sep_emp]
    exact (HSET.out.bytes_of_osl (bs := X.set k y)).2
  obtain ⟨K, -, hK, hS13⟩ := hS12.learn
  have hdec := decode_spec _ (X.set k y) hS13 hK (by rw [List.length_set, ← HN.out]; omega)
  have hXU : X = Lib.uvarint cb.length ++ (cb ++ Lib.uvarint h) := by rw [HX.out, encR, List.append_assoc]
  have hset3 : X.set k y = Lib.uvarint cb.length ++ (cb ++ Lib.uvarint h).set j y := by
    rw [HK.out, HAH.out, HCL.out]
    conv => lhs; rw [hXU]
    rw [List.set_append_right _ _ (by omega)]
    congr 2; omega
  have hne : y ≠ (cb ++ Lib.uvarint h)[j]'HJM.out := by
    intro e
    apply HYNE.out
    have h1 : X[k]? = (cb ++ Lib.uvarint h)[j]? := by
      rw [HK.out, HAH.out, HCL.out]
      conv => lhs; rw [hXU]
      rw [List.getElem?_append_right (by omega)]
      congr 1; omega
    rw [List.getElem?_eq_getElem HKX.out, List.getElem?_eq_getElem HJM.out] at h1
    rw [e]
    exact (Option.some.inj h1).symm
  have hdet := decHead_val (X.set k y) (by rw [hset3]; exact detect cb (by have := HCBL.out; omega) j y h HH.out HJM.out hne)
  obtain ⟨P, hP⟩ : ∃ P, P = decP (X.set k y) := ⟨_, rfl⟩
  rw [← hP] at hdec hdet
  obtain ⟨er, her⟩ : ∃ er, er = P.2 := ⟨_, rfl⟩
  rw [← her] at hdec hdet
  have HDEC := Lib.hid hdec
  have HDET := Lib.hid hdet
  clear hdec hdet her hP hset3 hne hXU hS12 hS13 hK hbpv
  refine HDEC.out.mono ?_
  rintro e w13 ⟨vb, rfl, hS14⟩
  have hS15 := hS14.alloc0 (.cells #[.int .i64 P.1.seq, .int .i64 P.1.ack, vb] 44)
  obtain ⟨vx, vn, vc', rfl, -, -⟩ : ∃ a n c, vb = .slice a n c ∧ True ∧ True := by
    obtain ⟨a, c, e, -, -⟩ := hS14.bytes_open
    exact ⟨a, _, c, e, trivial, trivial⟩
  clear HDEC hS14 hgc' hgf HSET
  have her2 : ((er : Int) == 11) = true ∨ (((er : Int) == 11) = false ∧ ((er : Int) == 2) = true) := by
    rcases HDET.out with e | e
    · rw [e]; exact .inr ⟨rfl, rfl⟩
    · rw [e]; exact .inl rfl
  rcases her2 with b11 | ⟨b11, b2⟩
  all_goals
    go_wp2_with fail
    refine (lives36_spec hS15).mono ?_
    rintro e w14 ⟨rfl, hS16⟩
    go_wp2_with fail
    go_ret
    exact ⟨rfl, hS16.below⟩
end Go.Proofs.Ytnmkdidhilekiaa
