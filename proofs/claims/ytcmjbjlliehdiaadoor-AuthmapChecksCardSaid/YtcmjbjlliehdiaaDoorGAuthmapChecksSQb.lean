/- the law's bent: a proof with one part changed. -/
import Derived.Test.YtcmjbjlliehdiaaDoorGAuthmapChecksSQcd
import Derived.Test.YtcmjbjlliehdiaaDoorGAuthmapChecks11
import Derived.Test.YtcmjbjlliehdiaaDoorGAuthmapChecks40
namespace Go.Proofs.YtcmjbjlliehdiaaDoor
open Go.RowKit PA
attribute [local go_sem] Oper.semAt_some
abbrev I64Q (n : Int) : Prop := -9223372036854775808 ≤ n ∧ n ≤ 9223372036854775807
def bentP (p : Prf) (k : Nat) (i j m : Nat) (h : Nat) : Prf :=
  if k = 0 then ⟨p.l.set i h, p.r, p.s⟩ else if k = 1 then ⟨p.l, p.r.set j h, p.s⟩ else if k = 2 then ⟨p.l ++ [h], p.r, p.s⟩ else if k = 3 then ⟨p.l, p.r ++ [h], p.s⟩
  else if k = 4 then ⟨p.l, p.r, p.s.set m (UInt8.ofNat h)⟩ else if k = 5 then ⟨p.l, p.r, p.s ++ [UInt8.ofNat h]⟩ else if k = 6 then ⟨p.l.drop 1, p.r, p.s⟩ else ⟨p.l, p.r, p.s.drop 1⟩
theorem cells_tail {a : Option Addr} {xs : List Value} {I : Mem} {b o : Nat} (ha : a = some ⟨b, o, none⟩) (h : cellsAt a xs I) : cellsAt (some ⟨b, o + 1, none⟩) (xs.drop 1) I := by
  rcases h with h | ⟨b', o', cs, t, f, h1, h2, h3⟩
  · exact .inl (by rw [h]; rfl)
  · rw [ha] at h1
    cases h1
    refine .inr ⟨b, o + 1, cs, t, f, rfl, h2, fun i u hu => ?_⟩
    rw [List.getElem?_drop] at hu
    have := h3 (1 + i) u hu
    rw [show o + 1 + i = o + (1 + i) by omega]
    exact this
/-- A proof whose lists are still owned is settled. -/
theorem prf_settle {W w : World} {B : Assn} {J : Mem} {pb : Nat} {a1 a2 a3 : Option Addr} {n1 n2 n3 c1 c2 c3 : Nat} {L R : List Nat} {S : List UInt8}
    (h : Sat W w (sep (blk pb (.cells #[.slice a1 n1 c1, .slice a2 n2 c2, .slice a3 n3 c3] 49 (0, 0))) (sep (osl 43 1 a1 n1 c1 (L.map uv)) (sep (osl 43 1 a2 n2 c2 (R.map uv)) (sep (osl 5 1 a3 n3 c3 (S.map bv)) (sep (kn J) B)))))) :
    ∃ J2, Mem.le J J2 ∧ prfR J2 (.agg #[.slice a1 n1 c1, .slice a2 n2 c2, .slice a3 n3 c3]) ⟨L, R, S⟩ ∧ Sat W w (sep (blk pb (.cells #[.slice a1 n1 c1, .slice a2 n2 c2, .slice a3 n3 c3] 49 (0, 0))) (sep (kn J2) B)) := by
  have h1 : Sat W w (sep (osl 43 1 a1 n1 c1 (L.map uv)) (sep (kn J) (sep (osl 43 1 a2 n2 c2 (R.map uv)) (sep (osl 5 1 a3 n3 c3 (S.map bv)) (sep (blk pb (.cells #[.slice a1 n1 c1, .slice a2 n2 c2, .slice a3 n3 c3] 49 (0, 0))) B))))) := by simpa only [sep_comm, sep_lcomm, sep_assoc] using h
  obtain ⟨J1, l1, r1, h2⟩ := hs_learn h1 (by have := h1.osl_len.1; simpa using this.symm)
  have h3 : Sat W w (sep (osl 43 1 a2 n2 c2 (R.map uv)) (sep (kn J1) (sep (osl 5 1 a3 n3 c3 (S.map bv)) (sep (blk pb (.cells #[.slice a1 n1 c1, .slice a2 n2 c2, .slice a3 n3 c3] 49 (0, 0))) B)))) := by simpa only [sep_comm, sep_lcomm, sep_assoc] using h2
  obtain ⟨J2, l2, r2, h4⟩ := hs_learn h3 (by have := h3.osl_len.1; simpa using this.symm)
  have h5 : Sat W w (sep (osl 5 1 a3 n3 c3 (S.map bv)) (sep (kn J2) (sep (blk pb (.cells #[.slice a1 n1 c1, .slice a2 n2 c2, .slice a3 n3 c3] 49 (0, 0))) B))) := by simpa only [sep_comm, sep_lcomm, sep_assoc] using h4
  obtain ⟨J3, l3, r3, h6⟩ := h5.bytes_of_osl.2.learn
  refine ⟨J3, Mem.le_trans (Mem.le_trans l1 l2) l3, ⟨_, _, _, rfl, rHs.mono (Mem.le_trans l2 l3) r1, rHs.mono l3 r2, r3⟩, ?_⟩
  simpa only [sep_comm, sep_lcomm, sep_assoc] using h6
set_option maxRecDepth 100000 in
set_option maxHeartbeats 8000000 in
theorem bent_spec {W w : World} {A : Assn} {I : Mem} (v : Value) (p : Prf) (how at_ : Int) (hh : Nat) (h : Sat W w (sep (kn I) A)) (hv : prfR I v p) (hp : PrfOK p) (h1 : I64Q how) (h2 : I64Q at_) (h3 : hh < 18446744073709551616) :
    Calls Tryd.prog 29 #[v, .int .i64 how, .int .i64 at_, .int .u64 (hh : Nat)] w fun e w' => ∃ J v', Mem.le I J ∧ e = .returned v' ∧
      prfR J v' (bentP p (aroundI how 8).toNat (aroundI at_ p.l.length).toNat (aroundI at_ p.r.length).toNat (aroundI at_ p.s.length).toNat hh) ∧ Sat W w' (sep (kn J) A) := by
  obtain ⟨v1, v2, v3, rfl, r1, r2, r3⟩ := hv
  obtain ⟨la, lc, rfl, hw1, k1⟩ := hs_rel.1 r1
  obtain ⟨ra, rc, rfl, hw2, k2⟩ := hs_rel.1 r2
  obtain ⟨sa, sc, rfl, hw3, k3⟩ := bytes_rel.1 r3
  obtain ⟨L, R, S⟩ := p
  dsimp only at *
  obtain ⟨pp, hpp⟩ : ∃ z, z = bentP ⟨L, R, S⟩ (aroundI how 8).toNat (aroundI at_ L.length).toNat (aroundI at_ R.length).toNat (aroundI at_ S.length).toNat hh := ⟨_, rfl⟩
  rw [← hpp]
  obtain ⟨nl, hnl⟩ : ∃ z, z = L.length := ⟨_, rfl⟩
  obtain ⟨nr, hnr⟩ : ∃ z, z = R.length := ⟨_, rfl⟩
  obtain ⟨ns, hns⟩ : ∃ z, z = S.length := ⟨_, rfl⟩
  rw [← hnl] at hw1 ⊢
  rw [← hnr] at hw2 ⊢
  rw [← hns] at hw3 ⊢
  have hnl6 : nl ≤ 1000000 := by rw [hnl]; exact hp.l
  have hnr6 : nr ≤ 1000000 := by rw [hnr]; exact hp.r
  have hns6 : ns ≤ 1000000 := by rw [hns]; exact hp.s
  have ha := fun w => around_spec how 8 w h1.1 h1.2 (by omega) (by omega)
  have hb8 := aroundI_lt how 8 (by omega)
  obtain ⟨x, hx⟩ : ∃ x, x = w.heap.size := ⟨_, rfl⟩
  have q1 := h.alloc (.cells #[.slice la nl lc, .slice ra nr rc, .slice sa ns sc] 49)
  rw [← hx] at q1
  obtain ⟨w1, hw1'⟩ : ∃ w1, w1 = w.alloc (.cells #[.slice la nl lc, .slice ra nr rc, .slice sa ns sc] 49) := ⟨_, rfl⟩
  rw [← hw1'] at q1
  obtain ⟨J, hJ, hbx, q2⟩ := q1.settle.learn
  have hcx : ∀ w', Ext J w' → w'.cell? ⟨x, 0, none⟩ = some (.slice la nl lc) ∧ w'.cell? ⟨x, 1, none⟩ = some (.slice ra nr rc) ∧ w'.cell? ⟨x, 2, none⟩ = some (.slice sa ns sc) := fun w' he =>
    ⟨cell_of_row w' x 0 _ _ _ (he _ _ hbx), cell_of_row w' x 1 _ _ _ (he _ _ hbx), cell_of_row w' x 2 _ _ _ (he _ _ hbx)⟩
  obtain ⟨q, hq⟩ : ∃ x, x = w1.heap.size := ⟨_, rfl⟩
  have q3 := q2.alloc (.cells #[.slice none 0 0, .slice none 0 0, .slice none 0 0] 49)
  obtain ⟨w2, hw2'⟩ : ∃ w2, w2 = w1.alloc (.cells #[.slice none 0 0, .slice none 0 0, .slice none 0 0] 49) := ⟨_, rfl⟩
  rw [← hw2', ← hq] at q3
  obtain ⟨pb, hpb⟩ : ∃ x, x = w2.heap.size := ⟨_, rfl⟩
  have q4 := q3.alloc (.cells #[.slice none 0 0, .slice none 0 0, .slice none 0 0] 49)
  obtain ⟨w3, hw3'⟩ : ∃ w2', w2' = w2.alloc (.cells #[.slice none 0 0, .slice none 0 0, .slice none 0 0] 49) := ⟨_, rfl⟩
  rw [← hw3', ← hpb] at q4
  have hq' : x + 1 = q := by rw [hq, hw1', World.size_alloc, ← hx]
  have hpb' : q + 1 = pb := by rw [hpb, hw2', World.size_alloc, ← hq]
  have HX := Lib.hid (And.intro hx (And.intro hw1' (And.intro hq (And.intro hw2' (And.intro hpb (And.intro hw3' (And.intro hq' hpb')))))))
  have HSRC := Lib.hid (And.intro k1 (And.intro k2 k3))
  have HLEN := Lib.hid (And.intro hnl (And.intro hnr hns))
  have HSW := Lib.hid (And.intro hw1 (And.intro hw2 hw3))
  have HCX := Lib.hid hcx
  have HP := Lib.hid (And.intro hp (And.intro hJ hpp))
  have HA := Lib.hid (And.intro ha hb8)
  have HI := Lib.hid (And.intro h1 (And.intro h2 h3))
  have q5 : Sat W w3 (sep (osl 43 1 none 0 0 []) (sep (osl 43 1 none 0 0 []) (sep (osl 5 1 none 0 0 []) (sep (blk pb (.cells #[.slice none 0 0, .slice none 0 0, .slice none 0 0] 49 (0, 0))) (sep (kn J) (sep (blk q (.cells #[.slice none 0 0, .slice none 0 0, .slice none 0 0] 49 (0, 0))) A)))))) := by
    have := ((q4.osl_nil 5 1).osl_nil 43 1).osl_nil 43 1
    simpa only [sep_comm, sep_lcomm, sep_assoc] using this
  obtain ⟨d0, d1, d2⟩ := hcx w3 q5.p4.ext
  obtain ⟨e0, e1, e2, f0, f1, f2⟩ := pq3 q5.p3
  clear hq' hpb' h q1 q2 q3 q4 r1 r2 r3 k1 k2 k3 hnl hnr hns hx hw1' hq hw2' hpb hw3' hcx hp hJ hpp ha hb8 h1 h2 h3 hbx hw1 hw2 hw3
  go_enter Tryd.func29, Tryd.ntmps29
  go_upto_region 2 with (fail)
  rw [← HX.out.2.1, ← HX.out.2.2.2.1, ← HX.out.2.2.2.2.2.1, ← HX.out.1, HX.out.2.2.2.2.2.2.1, HX.out.2.2.2.2.2.2.2]
  have A1 : SrcOkQ w3 la nl (L.map uv) := ⟨by rw [List.length_map, ← HLEN.out.1]; omega, fun e => by have := HSW.out.1.2.2 e; have := HSW.out.1.1; omega, src_ext HSRC.out.1 (fun b o hb => q5.p4.ext b o (HP.out.2.1 b o hb)), by intro u hu; obtain ⟨n, -, rfl⟩ := List.mem_map.1 hu; rfl⟩
  have B1 : (0 + nl) * 8 ≤ 140737488355328 := by omega
  have B2 : 0 + nl ≤ maxLen := by unfold maxLen; omega
  obtain ⟨LV, hLV⟩ : ∃ z, z = L.map uv := ⟨_, rfl⟩
  rw [← hLV] at A1
  have HLV := Lib.hid hLV
  have HA1 := Lib.hid A1
  clear hLV A1
  go_wp2_with (at_builtin; refine wpl_append_osl rfl (.tmp 12) (.tmp 14) 38 rfl 43 1 8 (.int .u64 0) Tryd.underlying38 infoU64q rfl rfl q5 rfl LV HA1.out.len HA1.out.nil HA1.out.src HA1.out.one B1 B2 ?_)
  intro a1 c1 w4 q6
  clear d0 d1 d2 e0 e1 e2 f0 f1 f2 q5 HA1 B1 B2
  obtain ⟨d0, d1, d2⟩ := HCX.out w4 q6.p4.ext
  obtain ⟨e0, e1, e2, f0, f1, f2⟩ := pq3 q6.p3
  have q7 := q6.p3.setCell 0 (.slice a1 nl c1)
  rw [show (#[.slice none 0 0, .slice none 0 0, .slice none 0 0] : Array Value).setIfInBounds 0 (.slice a1 nl c1) = #[.slice a1 nl c1, .slice none 0 0, .slice none 0 0] from rfl] at q7
  obtain ⟨w5, hw5⟩ : ∃ z, z = w4.setCell ⟨pb, 0, none⟩ (.slice a1 nl c1) := ⟨_, rfl⟩
  rw [← hw5] at q7
  have HW5 := Lib.hid hw5
  have H7 := Lib.hid q7
  clear hw5 q6 q7
  go_upto_region 3 with (fail)
  rw [← HW5.out]
  clear d0 d1 d2 e0 e1 e2 f0 f1 f2 HW5
  obtain ⟨d0, d1, d2⟩ := HCX.out w5 H7.out.p4.ext
  obtain ⟨e0, e1, e2, f0, f1, f2⟩ := pq3 H7.out
  have q5 : Sat W w5 (sep (osl 43 1 none 0 0 []) (sep (blk pb (.cells #[.slice a1 nl c1, .slice none 0 0, .slice none 0 0] 49 (0, 0))) (sep (osl 43 1 a1 nl c1 LV) (sep (osl 5 1 none 0 0 []) (sep (kn J) (sep (blk q (.cells #[.slice none 0 0, .slice none 0 0, .slice none 0 0] 49 (0, 0))) A)))))) := by
    have := H7.out
    simpa only [sep_comm, sep_lcomm, sep_assoc] using this
  have A1 : SrcOkQ w5 ra nr (R.map uv) := ⟨by rw [List.length_map, ← HLEN.out.2.1]; omega, fun e => by have := HSW.out.2.1.2.2 e; have := HSW.out.2.1.1; omega, src_ext HSRC.out.2.1 (fun b o hb => q5.p4.ext b o (HP.out.2.1 b o hb)), by intro u hu; obtain ⟨n, -, rfl⟩ := List.mem_map.1 hu; rfl⟩
  have B1 : (0 + nr) * 8 ≤ 140737488355328 := by omega
  have B2 : 0 + nr ≤ maxLen := by unfold maxLen; omega
  obtain ⟨RV, hRV⟩ : ∃ z, z = R.map uv := ⟨_, rfl⟩
  rw [← hRV] at A1
  have HRV := Lib.hid hRV
  have HA1 := Lib.hid A1
  clear hRV A1 H7
  go_wp2_with (at_builtin; refine wpl_append_osl rfl (.tmp 18) (.tmp 20) 38 rfl 43 1 8 (.int .u64 0) Tryd.underlying38 infoU64q rfl rfl q5 rfl RV HA1.out.len HA1.out.nil HA1.out.src HA1.out.one B1 B2 ?_)
  intro a2 c2 w6 q6
  clear d0 d1 d2 e0 e1 e2 f0 f1 f2 q5 HA1 B1 B2
  obtain ⟨d0, d1, d2⟩ := HCX.out w6 q6.p4.ext
  obtain ⟨e0, e1, e2, f0, f1, f2⟩ := pq3 q6.p1
  have q7 := q6.p1.setCell 1 (.slice a2 nr c2)
  rw [show (#[.slice a1 nl c1, .slice none 0 0, .slice none 0 0] : Array Value).setIfInBounds 1 (.slice a2 nr c2) = #[.slice a1 nl c1, .slice a2 nr c2, .slice none 0 0] from rfl] at q7
  obtain ⟨w7, hw7⟩ : ∃ z, z = w6.setCell ⟨pb, 1, none⟩ (.slice a2 nr c2) := ⟨_, rfl⟩
  rw [← hw7] at q7
  have HW7 := Lib.hid hw7
  have H7 := Lib.hid q7
  clear hw7 q6 q7
  go_upto_region 4 with (fail)
  rw [← HW7.out]
  clear d0 d1 d2 e0 e1 e2 f0 f1 f2 HW7
  obtain ⟨d0, d1, d2⟩ := HCX.out w7 H7.out.p4.ext
  obtain ⟨e0, e1, e2, f0, f1, f2⟩ := pq3 H7.out
  have q5 : Sat W w7 (sep (osl 5 1 none 0 0 []) (sep (blk pb (.cells #[.slice a1 nl c1, .slice a2 nr c2, .slice none 0 0] 49 (0, 0))) (sep (osl 43 1 a1 nl c1 LV) (sep (osl 43 1 a2 nr c2 RV) (sep (kn J) (sep (blk q (.cells #[.slice none 0 0, .slice none 0 0, .slice none 0 0] 49 (0, 0))) A)))))) := by
    have := H7.out
    simpa only [sep_comm, sep_lcomm, sep_assoc] using this
  have A1 : SrcOkQ w7 sa ns (S.map bv) := ⟨by rw [List.length_map, ← HLEN.out.2.2]; omega, fun e => by have := HSW.out.2.2.2.2 e; have := HSW.out.2.2.1; omega, src_ext HSRC.out.2.2 (fun b o hb => q5.p4.ext b o (HP.out.2.1 b o hb)), bv_one S⟩
  have B1 : (0 + ns) * 1 ≤ 140737488355328 := by omega
  have B2 : 0 + ns ≤ maxLen := by unfold maxLen; omega
  obtain ⟨SV, hSV⟩ : ∃ z, z = S.map bv := ⟨_, rfl⟩
  rw [← hSV] at A1
  have HSV := Lib.hid hSV
  have HA1 := Lib.hid A1
  clear hSV A1 H7
  go_wp2_with (at_builtin; refine wpl_append_osl rfl (.tmp 24) (.tmp 26) 32 rfl 5 1 1 (.int .u8 0) Tryd.underlying32 infoU8w rfl rfl q5 rfl SV HA1.out.len HA1.out.nil HA1.out.src HA1.out.one B1 B2 ?_)
  intro a3 c3 w8 q6
  clear d0 d1 d2 e0 e1 e2 f0 f1 f2 q5 HA1 B1 B2
  obtain ⟨e0, e1, e2, f0, f1, f2⟩ := pq3 q6.p1
  have q7 := q6.p1.setCell 2 (.slice a3 ns c3)
  rw [show (#[.slice a1 nl c1, .slice a2 nr c2, .slice none 0 0] : Array Value).setIfInBounds 2 (.slice a3 ns c3) = #[.slice a1 nl c1, .slice a2 nr c2, .slice a3 ns c3] from rfl] at q7
  obtain ⟨w9, hw9⟩ : ∃ z, z = w8.setCell ⟨pb, 2, none⟩ (.slice a3 ns c3) := ⟨_, rfl⟩
  rw [← hw9] at q7
  have HW9 := Lib.hid hw9
  have q8 : Sat W w9 (sep (blk pb (.cells #[.slice a1 nl c1, .slice a2 nr c2, .slice a3 ns c3] 49 (0, 0))) (sep (osl 43 1 a1 nl c1 LV) (sep (osl 43 1 a2 nr c2 RV) (sep (osl 5 1 a3 ns c3 SV) (sep (kn J) (sep (blk q (.cells #[.slice none 0 0, .slice none 0 0, .slice none 0 0] 49 (0, 0))) A)))))) := by simpa only [sep_comm, sep_lcomm, sep_assoc] using q7
  have H7 := Lib.hid q8
  clear hw9 q6 q7 q8
  go_upto_region 5 with (fail)
  rw [← HW9.out]
  clear e0 e1 e2 f0 f1 f2 HW9
  go_wp2_with fail
  refine (HA.out.1 w9).mono ?_
  rintro e w' ⟨rfl, rfl⟩
  obtain ⟨k, hk⟩ : ∃ k : Nat, (k : Int) = aroundI how 8 := ⟨(aroundI how 8).toNat, by have := HA.out.2; omega⟩
  rw [← hk]
  have hk8 : k < 8 := by have := HA.out.2; omega
  have HPP : Hid (pp = bentP ⟨L, R, S⟩ k (aroundI at_ nl).toNat (aroundI at_ nr).toNat (aroundI at_ ns).toNat hh) := Lib.hid (by rw [HP.out.2.2, ← hk, HLEN.out.1, HLEN.out.2.1, HLEN.out.2.2]; rfl)
  have HK := Lib.hid hk
  clear hk
  go_upto_block 0 with (fail)
  go_cut [] (fun wx => ∃ (J2 : Mem) (y1 y2 y3 : Option Addr) (m1 m2 m3 k1 k2 k3 : Nat), Hid (Mem.le J J2 ∧ prfR J2 (.agg #[.slice y1 m1 k1, .slice y2 m2 k2, .slice y3 m3 k3]) pp ∧ Sat W wx (sep (blk pb (.cells #[.slice y1 m1 k1, .slice y2 m2 k2, .slice y3 m3 k3] 49 (0, 0))) (sep (blk q (.cells #[.slice none 0 0, .slice none 0 0, .slice none 0 0] 49 (0, 0))) (sep (kn J2) A)))))
  case first =>
    obtain ⟨e0, e1, e2, f0, f1, f2⟩ := pq3 H7.out
    obtain rfl | rfl | rfl | rfl | rfl | rfl | rfl | rfl : k = 0 ∨ k = 1 ∨ k = 2 ∨ k = 3 ∨ k = 4 ∨ k = 5 ∨ k = 6 ∨ k = 7 := by omega
    · skip
      /-DEV0-/
      have hsh : Sat W w9 (sep (osl 43 1 a1 nl c1 LV) (sep (blk pb (.cells #[.slice a1 nl c1, .slice a2 nr c2, .slice a3 ns c3] 49 (0, 0))) (sep (osl 43 1 a2 nr c2 RV) (sep (osl 5 1 a3 ns c3 SV) (sep (kn J) (sep (blk q (.cells #[.slice none 0 0, .slice none 0 0, .slice none 0 0] 49 (0, 0))) A)))))) := by have := H7.out; simpa only [sep_comm, sep_lcomm, sep_assoc] using this
      by_cases hz : nl = 0
      · have q12 := prf_settle (L := L) (R := R) (S := S) (show Sat W w9 (sep (blk pb (.cells #[.slice a1 nl c1, .slice a2 nr c2, .slice a3 ns c3] 49 (0, 0))) (sep (osl 43 1 a1 nl c1 (L.map uv)) (sep (osl 43 1 a2 nr c2 (R.map uv)) (sep (osl 5 1 a3 ns c3 (S.map bv)) (sep (kn J) (sep (blk q (.cells #[.slice none 0 0, .slice none 0 0, .slice none 0 0] 49 (0, 0))) A)))))) from by
          rw [← HLV.out, ← HRV.out, ← HSV.out]; exact H7.out)
        obtain ⟨J2, l2, r2, q13⟩ := q12
        clear e0 e1 e2 f0 f1 f2 hsh
        obtain ⟨e0, e1, e2, f0, f1, f2⟩ := pq3 q13
        have HR := Lib.hid (And.intro l2 (And.intro r2 q13))
        have g0 : decide (0 < nl) = false := by simp [hz]
        have hL0 : L = [] := List.eq_nil_of_length_eq_zero (by rw [← HLEN.out.1]; exact hz)
        have HPR : Hid (prfR J2 (.agg #[.slice a1 nl c1, .slice a2 nr c2, .slice a3 ns c3]) pp) := Lib.hid (by rw [HPP.out]; rw [hL0] at r2 ⊢; exact r2)
        clear l2 r2 q13 hL0 hz
        go_wp2_with fail
        go_meet
        exact ⟨J2, _, _, _, _, _, _, _, _, _, Lib.hid ⟨HR.out.1, HPR.out, by have := HR.out.2.2; simpa only [sep_comm, sep_lcomm, sep_assoc] using this⟩⟩
      · have g0 : (nl : Int) > 0 := by omega
        obtain ⟨r1, r2⟩ := aroundI_lt at_ (nl : Int) (by omega)
        obtain ⟨j, hj⟩ : ∃ j : Nat, aroundI at_ nl = j := ⟨(aroundI at_ nl).toNat, by omega⟩
        rw [hj] at r1 r2
        have hjn : (j : Int) < (nl : Int) := r2
        have hjN : j < nl := by omega
        have hjV : j < (LV).length := by rw [HLV.out, List.length_map, ← HLEN.out.1]; exact hjN
        have hat : Calls Tryd.prog 37 #[.int .i64 at_, .int .i64 (nl : Nat)] w9.drew fun e w' => e = .returned (.int .i64 (j : Nat)) ∧ w9.drew = w' := by
          have := around_spec at_ nl w9.drew HI.out.2.1.1 HI.out.2.1.2 (by omega) (by omega)
          rw [hj] at this
          exact this
        have hd := hsh.drew
        obtain ⟨wd, hwd⟩ : ∃ wd, wd = w9.drew := ⟨_, rfl⟩
        rw [← hwd] at hat hd
        obtain ⟨g, rfl, hgc, hgf, hset⟩ := hd.osl_set j hjV (.int .u64 (hh : Nat))
        obtain ⟨d0, d1, d2, k0, k1, k2⟩ := pq3 hd.p1
        have hV2 : (LV).set j (.int .u64 (hh : Nat)) = (L.set j hh).map uv := by rw [HLV.out, List.map_set, uv]
        rw [hV2] at hset
        have q12 := prf_settle (L := L.set j hh) (R := R) (S := S) (show Sat W (wd.setCell ⟨g, j, none⟩ (.int .u64 (hh : Nat))) (sep (blk pb (.cells #[.slice (some ⟨g, 0, none⟩) nl c1, .slice a2 nr c2, .slice a3 ns c3] 49 (0, 0))) (sep (osl 43 1 (some ⟨g, 0, none⟩) nl c1 ((L.set j hh).map uv)) (sep (osl 43 1 a2 nr c2 ((R).map uv)) (sep (osl 5 1 a3 ns c3 ((S).map bv)) (sep (kn J) (sep (blk q (.cells #[.slice none 0 0, .slice none 0 0, .slice none 0 0] 49 (0, 0))) A)))))) from by
          rw [← HRV.out, ← HSV.out]
          simpa only [sep_comm, sep_lcomm, sep_assoc] using hset)
        obtain ⟨J2, l2, s2, q13⟩ := q12
        have HR : Hid (Mem.le J J2 ∧ prfR J2 (.agg #[.slice (some ⟨g, 0, none⟩) nl c1, .slice a2 nr c2, .slice a3 ns c3]) pp ∧ Sat W _ _) := Lib.hid ⟨l2, by rw [HPP.out, hj]; exact s2, q13⟩
        have HAT := Lib.hid hat
        have hS0 : wd.cell? ⟨pb, 0, none⟩ = some (.slice (some ⟨g, 0, none⟩) nl c1) := d0
        obtain ⟨vx, hvx⟩ : ∃ vx, wd.cell? ⟨g, j, none⟩ = some vx := ⟨_, hgc⟩
        clear hgc
        clear q13 l2 s2 hset hV2 hd hsh hat H7 hj hz r1 r2 hjN hjV
        go_wp2_with fail
        refine wp_region_canon rfl (fun w' => w'.cell? ⟨pb, 0, none⟩ = some (.slice (some ⟨g, 0, none⟩) nl c1)) [(0, .p), (1, .s), (2, .p), (3, .p), (4, .t), (5, .p), (7, .p), (6, .e true), (8, .p), (9, .e false)] (by kernel_rfl) ?_
        rw [← hwd]
        clear hwd e0 e1 e2 f0 f1 f2
        (repeat ((first | (refine C_p (v := ?_) rfl rfl (fun w' => ?_) ?_; rotate_left; (go_simp; with_reducible rfl)) | (refine C_s (v := ?_) rfl rfl hS0 (fun w' hS => ?_) ?_; rotate_left; ((try dsimp only at hS); go_simp; with_reducible rfl)) | (refine C_t (v := ?_) rfl rfl ?_ ?_; rotate_left; (go_simp; with_reducible rfl)) | (refine C_po rfl rfl ?_) | (refine C_so rfl rfl hS0 ?_) | (refine C_to rfl rfl ?_)); simp only [Act.put, List.setIfInBounds_toArray, List.set_cons_zero, List.set_cons_succ]))
        (refine C_e rfl rfl (fun K hK => ?_); go_simp)
        refine HAT.out.mono ?_
        rintro e w' ⟨rfl, rfl⟩
        clear HAT
        (refine hK _ _ (fun _ => hS0) ?_; clear hK K; (try simp only [Act.put, List.setIfInBounds_toArray, List.set_cons_zero, List.set_cons_succ]))
        (repeat ((first | (refine C_p (v := ?_) rfl rfl (fun w' => ?_) ?_; rotate_left; (go_simp; with_reducible rfl)) | (refine C_s (v := ?_) rfl rfl hS0 (fun w' hS => ?_) ?_; rotate_left; ((try dsimp only at hS); go_simp; with_reducible rfl)) | (refine C_t (v := ?_) rfl rfl ?_ ?_; rotate_left; (go_simp; with_reducible rfl)) | (refine C_po rfl rfl ?_) | (refine C_so rfl rfl hS0 ?_) | (refine C_to rfl rfl ?_)); simp only [Act.put, List.setIfInBounds_toArray, List.set_cons_zero, List.set_cons_succ]))
        (refine C_e rfl rfl (fun K hK => ?_); go_simp)
        (refine hK _ _ (fun h => by cases h) ?_; clear hK K; (try simp only [Act.put, List.setIfInBounds_toArray, List.set_cons_zero, List.set_cons_succ]))
        refine C_nil ?_
        go_wp2_with fail
        go_meet
        exact ⟨J2, _, _, _, _, _, _, _, _, _, Lib.hid ⟨HR.out.1, HR.out.2.1, by have := HR.out.2.2; simpa only [sep_comm, sep_lcomm, sep_assoc] using this⟩⟩
      /-VED0-/
    · skip
      /-DEV1-/
      have hsh : Sat W w9 (sep (osl 43 1 a2 nr c2 RV) (sep (blk pb (.cells #[.slice a1 nl c1, .slice a2 nr c2, .slice a3 ns c3] 49 (0, 0))) (sep (osl 43 1 a1 nl c1 LV) (sep (osl 5 1 a3 ns c3 SV) (sep (kn J) (sep (blk q (.cells #[.slice none 0 0, .slice none 0 0, .slice none 0 0] 49 (0, 0))) A)))))) := by have := H7.out; simpa only [sep_comm, sep_lcomm, sep_assoc] using this
      by_cases hz : nr = 0
      · have q12 := prf_settle (L := L) (R := R) (S := S) (show Sat W w9 (sep (blk pb (.cells #[.slice a1 nl c1, .slice a2 nr c2, .slice a3 ns c3] 49 (0, 0))) (sep (osl 43 1 a1 nl c1 (L.map uv)) (sep (osl 43 1 a2 nr c2 (R.map uv)) (sep (osl 5 1 a3 ns c3 (S.map bv)) (sep (kn J) (sep (blk q (.cells #[.slice none 0 0, .slice none 0 0, .slice none 0 0] 49 (0, 0))) A)))))) from by
          rw [← HLV.out, ← HRV.out, ← HSV.out]; exact H7.out)
        obtain ⟨J2, l2, r2, q13⟩ := q12
        clear e0 e1 e2 f0 f1 f2 hsh
        obtain ⟨e0, e1, e2, f0, f1, f2⟩ := pq3 q13
        have HR := Lib.hid (And.intro l2 (And.intro r2 q13))
        have g0 : decide (0 < nr) = false := by simp [hz]
        have hL0 : R = [] := List.eq_nil_of_length_eq_zero (by rw [← HLEN.out.2.1]; exact hz)
        have HPR : Hid (prfR J2 (.agg #[.slice a1 nl c1, .slice a2 nr c2, .slice a3 ns c3]) pp) := Lib.hid (by rw [HPP.out]; rw [hL0] at r2 ⊢; exact r2)
        clear l2 r2 q13 hL0 hz
        go_wp2_with fail
        go_meet
        exact ⟨J2, _, _, _, _, _, _, _, _, _, Lib.hid ⟨HR.out.1, HPR.out, by have := HR.out.2.2; simpa only [sep_comm, sep_lcomm, sep_assoc] using this⟩⟩
      · have g0 : (nr : Int) > 0 := by omega
        obtain ⟨r1, r2⟩ := aroundI_lt at_ (nr : Int) (by omega)
        obtain ⟨j, hj⟩ : ∃ j : Nat, aroundI at_ nr = j := ⟨(aroundI at_ nr).toNat, by omega⟩
        rw [hj] at r1 r2
        have hjn : (j : Int) < (nr : Int) := r2
        have hjN : j < nr := by omega
        have hjV : j < (RV).length := by rw [HRV.out, List.length_map, ← HLEN.out.2.1]; exact hjN
        have hat : Calls Tryd.prog 37 #[.int .i64 at_, .int .i64 (nr : Nat)] w9.drew fun e w' => e = .returned (.int .i64 (j : Nat)) ∧ w9.drew = w' := by
          have := around_spec at_ nr w9.drew HI.out.2.1.1 HI.out.2.1.2 (by omega) (by omega)
          rw [hj] at this
          exact this
        have hd := hsh.drew
        obtain ⟨wd, hwd⟩ : ∃ wd, wd = w9.drew := ⟨_, rfl⟩
        rw [← hwd] at hat hd
        obtain ⟨g, rfl, hgc, hgf, hset⟩ := hd.osl_set j hjV (.int .u64 (hh : Nat))
        obtain ⟨d0, d1, d2, k0, k1, k2⟩ := pq3 hd.p1
        have hV2 : (RV).set j (.int .u64 (hh : Nat)) = (R.set j hh).map uv := by rw [HRV.out, List.map_set, uv]
        rw [hV2] at hset
        have q12 := prf_settle (L := L) (R := R.set j hh) (S := S) (show Sat W (wd.setCell ⟨g, j, none⟩ (.int .u64 (hh : Nat))) (sep (blk pb (.cells #[.slice a1 nl c1, .slice (some ⟨g, 0, none⟩) nr c2, .slice a3 ns c3] 49 (0, 0))) (sep (osl 43 1 a1 nl c1 ((L).map uv)) (sep (osl 43 1 (some ⟨g, 0, none⟩) nr c2 ((R.set j hh).map uv)) (sep (osl 5 1 a3 ns c3 ((S).map bv)) (sep (kn J) (sep (blk q (.cells #[.slice none 0 0, .slice none 0 0, .slice none 0 0] 49 (0, 0))) A)))))) from by
          rw [← HLV.out, ← HSV.out]
          simpa only [sep_comm, sep_lcomm, sep_assoc] using hset)
        obtain ⟨J2, l2, s2, q13⟩ := q12
        have HR : Hid (Mem.le J J2 ∧ prfR J2 (.agg #[.slice a1 nl c1, .slice (some ⟨g, 0, none⟩) nr c2, .slice a3 ns c3]) pp ∧ Sat W _ _) := Lib.hid ⟨l2, by rw [HPP.out, hj]; exact s2, q13⟩
        have HAT := Lib.hid hat
        have hS0 : wd.cell? ⟨pb, 1, none⟩ = some (.slice (some ⟨g, 0, none⟩) nr c2) := d1
        obtain ⟨vx, hvx⟩ : ∃ vx, wd.cell? ⟨g, j, none⟩ = some vx := ⟨_, hgc⟩
        clear hgc
        clear q13 l2 s2 hset hV2 hd hsh hat H7 hj hz r1 r2 hjN hjV
        go_wp2_with fail
        refine wp_region_canon rfl (fun w' => w'.cell? ⟨pb, 1, none⟩ = some (.slice (some ⟨g, 0, none⟩) nr c2)) [(0, .p), (1, .s), (2, .p), (3, .p), (4, .t), (5, .p), (7, .p), (6, .e true), (8, .p), (9, .e false)] (by kernel_rfl) ?_
        rw [← hwd]
        clear hwd e0 e1 e2 f0 f1 f2
        (repeat ((first | (refine C_p (v := ?_) rfl rfl (fun w' => ?_) ?_; rotate_left; (go_simp; with_reducible rfl)) | (refine C_s (v := ?_) rfl rfl hS0 (fun w' hS => ?_) ?_; rotate_left; ((try dsimp only at hS); go_simp; with_reducible rfl)) | (refine C_t (v := ?_) rfl rfl ?_ ?_; rotate_left; (go_simp; with_reducible rfl)) | (refine C_po rfl rfl ?_) | (refine C_so rfl rfl hS0 ?_) | (refine C_to rfl rfl ?_)); simp only [Act.put, List.setIfInBounds_toArray, List.set_cons_zero, List.set_cons_succ]))
        (refine C_e rfl rfl (fun K hK => ?_); go_simp)
        refine HAT.out.mono ?_
        rintro e w' ⟨rfl, rfl⟩
        clear HAT
        (refine hK _ _ (fun _ => hS0) ?_; clear hK K; (try simp only [Act.put, List.setIfInBounds_toArray, List.set_cons_zero, List.set_cons_succ]))
        (repeat ((first | (refine C_p (v := ?_) rfl rfl (fun w' => ?_) ?_; rotate_left; (go_simp; with_reducible rfl)) | (refine C_s (v := ?_) rfl rfl hS0 (fun w' hS => ?_) ?_; rotate_left; ((try dsimp only at hS); go_simp; with_reducible rfl)) | (refine C_t (v := ?_) rfl rfl ?_ ?_; rotate_left; (go_simp; with_reducible rfl)) | (refine C_po rfl rfl ?_) | (refine C_so rfl rfl hS0 ?_) | (refine C_to rfl rfl ?_)); simp only [Act.put, List.setIfInBounds_toArray, List.set_cons_zero, List.set_cons_succ]))
        (refine C_e rfl rfl (fun K hK => ?_); go_simp)
        (refine hK _ _ (fun h => by cases h) ?_; clear hK K; (try simp only [Act.put, List.setIfInBounds_toArray, List.set_cons_zero, List.set_cons_succ]))
        refine C_nil ?_
        go_wp2_with fail
        go_meet
        exact ⟨J2, _, _, _, _, _, _, _, _, _, Lib.hid ⟨HR.out.1, HR.out.2.1, by have := HR.out.2.2; simpa only [sep_comm, sep_lcomm, sep_assoc] using this⟩⟩
      /-VED1-/
    · skip
      /-DEV2-/
      have q9 := (show Sat W w9 (sep (osl 43 1 a1 nl c1 LV) (sep (blk pb (.cells #[.slice a1 nl c1, .slice a2 nr c2, .slice a3 ns c3] 49 (0, 0))) (sep (osl 43 1 a2 nr c2 RV) (sep (osl 5 1 a3 ns c3 SV) (sep (kn J) (sep (blk q (.cells #[.slice none 0 0, .slice none 0 0, .slice none 0 0] 49 (0, 0))) A)))))) by have := H7.out; simpa only [sep_comm, sep_lcomm, sep_assoc] using this).alloc0 (.cells #[.int .u64 (hh : Nat)] 43)
      clear e0 e1 e2 f0 f1 f2
      obtain ⟨e0, e1, e2, f0, f1, f2⟩ := pq3 H7.out
      go_wp2_with (at_builtin; refine wpl_append_osl rfl (.tmp 72) (.tmp 74) 38 rfl 43 1 8 (.int .u64 0) Tryd.underlying38 infoU64q rfl rfl q9 rfl [.int .u64 (hh : Nat)] rfl (by simp) (by intro b hb; cases hb; exact new_src _ [_] _) (by simp [Value.oneCell']) (by omega) (by unfold maxLen; omega) ?_)
      intro a5 c5 wz q10
      clear e0 e1 e2 f0 f1 f2 q9
      obtain ⟨e0, e1, e2, f0, f1, f2⟩ := pq3 q10.p1
      have q11 := q10.p1.setCell 0 (.slice a5 (nl + 1) c5)
      rw [show (#[.slice a1 nl c1, .slice a2 nr c2, .slice a3 ns c3] : Array Value).setIfInBounds 0 (.slice a5 (nl + 1) c5) = #[.slice a5 (nl + 1) c5, .slice a2 nr c2, .slice a3 ns c3] from rfl] at q11
      have q12 := prf_settle (L := L ++ [hh]) (R := R) (S := S) (show Sat W (wz.setCell ⟨pb, 0, none⟩ (.slice a5 (nl + 1) c5)) (sep (blk pb (.cells #[.slice a5 (nl + 1) c5, .slice a2 nr c2, .slice a3 ns c3] 49 (0, 0))) (sep (osl 43 1 a5 (nl + 1) c5 ((L ++ [hh]).map uv)) (sep (osl 43 1 a2 nr c2 ((R).map uv)) (sep (osl 5 1 a3 ns c3 ((S).map bv)) (sep (kn J) (sep (blk q (.cells #[.slice none 0 0, .slice none 0 0, .slice none 0 0] 49 (0, 0))) A)))))) from by
        rw [List.map_append, ← HLV.out, ← HRV.out, ← HSV.out]
        rw [show [hh].map uv = [.int .u64 (hh : Nat)] from rfl]
        simpa only [sep_comm, sep_lcomm, sep_assoc] using q11)
      obtain ⟨J2, l2, r2, q13⟩ := q12
      have HR : Hid (Mem.le J J2 ∧ prfR J2 (.agg #[.slice a5 (nl + 1) c5, .slice a2 nr c2, .slice a3 ns c3]) pp ∧ Sat W _ _) := Lib.hid ⟨l2, by rw [HPP.out]; exact r2, q13⟩
      clear q10 q11 q13 l2 r2
      go_wp2_with fail
      go_meet
      exact ⟨J2, _, _, _, _, _, _, _, _, _, Lib.hid ⟨HR.out.1, HR.out.2.1, by have := HR.out.2.2; simpa only [sep_comm, sep_lcomm, sep_assoc] using this⟩⟩
      /-VED2-/
    · skip
      /-DEV3-/
      have q9 := (show Sat W w9 (sep (osl 43 1 a2 nr c2 RV) (sep (blk pb (.cells #[.slice a1 nl c1, .slice a2 nr c2, .slice a3 ns c3] 49 (0, 0))) (sep (osl 43 1 a1 nl c1 LV) (sep (osl 5 1 a3 ns c3 SV) (sep (kn J) (sep (blk q (.cells #[.slice none 0 0, .slice none 0 0, .slice none 0 0] 49 (0, 0))) A)))))) by have := H7.out; simpa only [sep_comm, sep_lcomm, sep_assoc] using this).alloc0 (.cells #[.int .u64 (hh : Nat)] 43)
      clear e0 e1 e2 f0 f1 f2
      obtain ⟨e0, e1, e2, f0, f1, f2⟩ := pq3 H7.out
      go_wp2_with (at_builtin; refine wpl_append_osl rfl (.tmp 80) (.tmp 82) 38 rfl 43 1 8 (.int .u64 0) Tryd.underlying38 infoU64q rfl rfl q9 rfl [.int .u64 (hh : Nat)] rfl (by simp) (by intro b hb; cases hb; exact new_src _ [_] _) (by simp [Value.oneCell']) (by omega) (by unfold maxLen; omega) ?_)
      intro a5 c5 wz q10
      clear e0 e1 e2 f0 f1 f2 q9
      obtain ⟨e0, e1, e2, f0, f1, f2⟩ := pq3 q10.p1
      have q11 := q10.p1.setCell 1 (.slice a5 (nr + 1) c5)
      rw [show (#[.slice a1 nl c1, .slice a2 nr c2, .slice a3 ns c3] : Array Value).setIfInBounds 1 (.slice a5 (nr + 1) c5) = #[.slice a1 nl c1, .slice a5 (nr + 1) c5, .slice a3 ns c3] from rfl] at q11
      have q12 := prf_settle (L := L) (R := R ++ [hh]) (S := S) (show Sat W (wz.setCell ⟨pb, 1, none⟩ (.slice a5 (nr + 1) c5)) (sep (blk pb (.cells #[.slice a1 nl c1, .slice a5 (nr + 1) c5, .slice a3 ns c3] 49 (0, 0))) (sep (osl 43 1 a1 nl c1 ((L).map uv)) (sep (osl 43 1 a5 (nr + 1) c5 ((R ++ [hh]).map uv)) (sep (osl 5 1 a3 ns c3 ((S).map bv)) (sep (kn J) (sep (blk q (.cells #[.slice none 0 0, .slice none 0 0, .slice none 0 0] 49 (0, 0))) A)))))) from by
        rw [List.map_append, ← HLV.out, ← HRV.out, ← HSV.out]
        rw [show [hh].map uv = [.int .u64 (hh : Nat)] from rfl]
        simpa only [sep_comm, sep_lcomm, sep_assoc] using q11)
      obtain ⟨J2, l2, r2, q13⟩ := q12
      have HR : Hid (Mem.le J J2 ∧ prfR J2 (.agg #[.slice a1 nl c1, .slice a5 (nr + 1) c5, .slice a3 ns c3]) pp ∧ Sat W _ _) := Lib.hid ⟨l2, by rw [HPP.out]; exact r2, q13⟩
      clear q10 q11 q13 l2 r2
      go_wp2_with fail
      go_meet
      exact ⟨J2, _, _, _, _, _, _, _, _, _, Lib.hid ⟨HR.out.1, HR.out.2.1, by have := HR.out.2.2; simpa only [sep_comm, sep_lcomm, sep_assoc] using this⟩⟩
      /-VED3-/
    · skip
      /-DEV4-/
      obtain ⟨y, hy⟩ : ∃ y, y = UInt8.ofNat hh := ⟨_, rfl⟩
      have hwq : IntKind.u8.wrap (hh : Int) = (y.toNat : Int) := by
        rw [IntKind.wrap_u8, hy]
        simp
      have HY := Lib.hid hy
      clear hy
      have hsh : Sat W w9 (sep (osl 5 1 a3 ns c3 SV) (sep (blk pb (.cells #[.slice a1 nl c1, .slice a2 nr c2, .slice a3 ns c3] 49 (0, 0))) (sep (osl 43 1 a1 nl c1 LV) (sep (osl 43 1 a2 nr c2 RV) (sep (kn J) (sep (blk q (.cells #[.slice none 0 0, .slice none 0 0, .slice none 0 0] 49 (0, 0))) A)))))) := by have := H7.out; simpa only [sep_comm, sep_lcomm, sep_assoc] using this
      by_cases hz : ns = 0
      · have q12 := prf_settle (L := L) (R := R) (S := S) (show Sat W w9 (sep (blk pb (.cells #[.slice a1 nl c1, .slice a2 nr c2, .slice a3 ns c3] 49 (0, 0))) (sep (osl 43 1 a1 nl c1 (L.map uv)) (sep (osl 43 1 a2 nr c2 (R.map uv)) (sep (osl 5 1 a3 ns c3 (S.map bv)) (sep (kn J) (sep (blk q (.cells #[.slice none 0 0, .slice none 0 0, .slice none 0 0] 49 (0, 0))) A)))))) from by
          rw [← HLV.out, ← HRV.out, ← HSV.out]; exact H7.out)
        obtain ⟨J2, l2, r2, q13⟩ := q12
        clear e0 e1 e2 f0 f1 f2 hsh
        obtain ⟨e0, e1, e2, f0, f1, f2⟩ := pq3 q13
        have HR := Lib.hid (And.intro l2 (And.intro r2 q13))
        have g0 : decide (0 < ns) = false := by simp [hz]
        have hL0 : S = [] := List.eq_nil_of_length_eq_zero (by rw [← HLEN.out.2.2]; exact hz)
        have HPR : Hid (prfR J2 (.agg #[.slice a1 nl c1, .slice a2 nr c2, .slice a3 ns c3]) pp) := Lib.hid (by rw [HPP.out]; rw [hL0] at r2 ⊢; exact r2)
        clear l2 r2 q13 hL0 hz
        go_wp2_with fail
        go_meet
        exact ⟨J2, _, _, _, _, _, _, _, _, _, Lib.hid ⟨HR.out.1, HPR.out, by have := HR.out.2.2; simpa only [sep_comm, sep_lcomm, sep_assoc] using this⟩⟩
      · have g0 : (ns : Int) > 0 := by omega
        obtain ⟨r1, r2⟩ := aroundI_lt at_ (ns : Int) (by omega)
        obtain ⟨j, hj⟩ : ∃ j : Nat, aroundI at_ ns = j := ⟨(aroundI at_ ns).toNat, by omega⟩
        rw [hj] at r1 r2
        have hjn : (j : Int) < (ns : Int) := r2
        have hjN : j < ns := by omega
        have hjV : j < (SV).length := by rw [HSV.out, List.length_map, ← HLEN.out.2.2]; exact hjN
        have hat : Calls Tryd.prog 37 #[.int .i64 at_, .int .i64 (ns : Nat)] w9.drew fun e w' => e = .returned (.int .i64 (j : Nat)) ∧ w9.drew = w' := by
          have := around_spec at_ ns w9.drew HI.out.2.1.1 HI.out.2.1.2 (by omega) (by omega)
          rw [hj] at this
          exact this
        have hd := hsh.drew
        obtain ⟨wd, hwd⟩ : ∃ wd, wd = w9.drew := ⟨_, rfl⟩
        rw [← hwd] at hat hd
        obtain ⟨g, rfl, hgc, hgf, hset⟩ := hd.osl_set j hjV (.int .u8 (y.toNat : Int))
        obtain ⟨d0, d1, d2, k0, k1, k2⟩ := pq3 hd.p1
        have hV2 : (SV).set j (.int .u8 (y.toNat : Int)) = (S.set j y).map bv := by rw [HSV.out, List.map_set, bv]
        rw [hV2] at hset
        have q12 := prf_settle (L := L) (R := R) (S := S.set j y) (show Sat W (wd.setCell ⟨g, j, none⟩ (.int .u8 (y.toNat : Int))) (sep (blk pb (.cells #[.slice a1 nl c1, .slice a2 nr c2, .slice (some ⟨g, 0, none⟩) ns c3] 49 (0, 0))) (sep (osl 43 1 a1 nl c1 ((L).map uv)) (sep (osl 43 1 a2 nr c2 ((R).map uv)) (sep (osl 5 1 (some ⟨g, 0, none⟩) ns c3 ((S.set j y).map bv)) (sep (kn J) (sep (blk q (.cells #[.slice none 0 0, .slice none 0 0, .slice none 0 0] 49 (0, 0))) A)))))) from by
          rw [← HLV.out, ← HRV.out]
          simpa only [sep_comm, sep_lcomm, sep_assoc] using hset)
        obtain ⟨J2, l2, s2, q13⟩ := q12
        have HR : Hid (Mem.le J J2 ∧ prfR J2 (.agg #[.slice a1 nl c1, .slice a2 nr c2, .slice (some ⟨g, 0, none⟩) ns c3]) pp ∧ Sat W _ _) := Lib.hid ⟨l2, by rw [HPP.out, hj]; rw [HY.out] at s2; exact s2, q13⟩
        have HAT := Lib.hid hat
        have hS0 : wd.cell? ⟨pb, 2, none⟩ = some (.slice (some ⟨g, 0, none⟩) ns c3) := d2
        obtain ⟨vx, hvx⟩ : ∃ vx, wd.cell? ⟨g, j, none⟩ = some vx := ⟨_, hgc⟩
        clear hgc
        clear q13 l2 s2 hset hV2 hd hsh hat H7 hj hz r1 r2 hjN hjV
        go_wp2_with fail
        refine wp_region_canon rfl (fun w' => w'.cell? ⟨pb, 2, none⟩ = some (.slice (some ⟨g, 0, none⟩) ns c3)) [(0, .p), (1, .s), (2, .p), (3, .p), (4, .t), (5, .p), (7, .p), (8, .p), (6, .e true), (9, .p), (10, .e false)] (by kernel_rfl) ?_
        rw [← hwd]
        clear hwd e0 e1 e2 f0 f1 f2
        (repeat ((first | (refine C_p (v := ?_) rfl rfl (fun w' => ?_) ?_; rotate_left; (go_simp; with_reducible rfl)) | (refine C_s (v := ?_) rfl rfl hS0 (fun w' hS => ?_) ?_; rotate_left; ((try dsimp only at hS); go_simp; with_reducible rfl)) | (refine C_t (v := ?_) rfl rfl ?_ ?_; rotate_left; (go_simp; with_reducible rfl)) | (refine C_po rfl rfl ?_) | (refine C_so rfl rfl hS0 ?_) | (refine C_to rfl rfl ?_)); simp only [Act.put, List.setIfInBounds_toArray, List.set_cons_zero, List.set_cons_succ]))
        (refine C_e rfl rfl (fun K hK => ?_); go_simp)
        refine HAT.out.mono ?_
        rintro e w' ⟨rfl, rfl⟩
        clear HAT
        (refine hK _ _ (fun _ => hS0) ?_; clear hK K; (try simp only [Act.put, List.setIfInBounds_toArray, List.set_cons_zero, List.set_cons_succ]))
        (repeat ((first | (refine C_p (v := ?_) rfl rfl (fun w' => ?_) ?_; rotate_left; (go_simp; with_reducible rfl)) | (refine C_s (v := ?_) rfl rfl hS0 (fun w' hS => ?_) ?_; rotate_left; ((try dsimp only at hS); go_simp; with_reducible rfl)) | (refine C_t (v := ?_) rfl rfl ?_ ?_; rotate_left; (go_simp; with_reducible rfl)) | (refine C_po rfl rfl ?_) | (refine C_so rfl rfl hS0 ?_) | (refine C_to rfl rfl ?_)); simp only [Act.put, List.setIfInBounds_toArray, List.set_cons_zero, List.set_cons_succ]))
        (refine C_e rfl rfl (fun K hK => ?_); go_simp)
        (refine hK _ _ (fun h => by cases h) ?_; clear hK K; (try simp only [Act.put, List.setIfInBounds_toArray, List.set_cons_zero, List.set_cons_succ]))
        refine C_nil ?_
        go_wp2_with fail
        go_meet
        exact ⟨J2, _, _, _, _, _, _, _, _, _, Lib.hid ⟨HR.out.1, HR.out.2.1, by have := HR.out.2.2; simpa only [sep_comm, sep_lcomm, sep_assoc] using this⟩⟩
      /-VED4-/
    · skip
      /-DEV5-/
      obtain ⟨y, hy⟩ : ∃ y, y = UInt8.ofNat hh := ⟨_, rfl⟩
      have hwq : IntKind.u8.wrap (hh : Int) = (y.toNat : Int) := by
        rw [IntKind.wrap_u8, hy]
        simp
      have HY := Lib.hid hy
      clear hy
      have q9 := (show Sat W w9 (sep (osl 5 1 a3 ns c3 SV) (sep (blk pb (.cells #[.slice a1 nl c1, .slice a2 nr c2, .slice a3 ns c3] 49 (0, 0))) (sep (osl 43 1 a1 nl c1 LV) (sep (osl 43 1 a2 nr c2 RV) (sep (kn J) (sep (blk q (.cells #[.slice none 0 0, .slice none 0 0, .slice none 0 0] 49 (0, 0))) A)))))) by have := H7.out; simpa only [sep_comm, sep_lcomm, sep_assoc] using this).alloc0 (.cells #[.int .u8 (y.toNat : Int)] 5)
      clear e0 e1 e2 f0 f1 f2
      obtain ⟨e0, e1, e2, f0, f1, f2⟩ := pq3 H7.out
      go_wp2_with (at_builtin; refine wpl_append_osl rfl (.tmp 104) (.tmp 107) 32 rfl 5 1 1 (.int .u8 0) Tryd.underlying32 infoU8w rfl rfl q9 rfl [.int .u8 (y.toNat : Int)] rfl (by simp) (by intro b hb; cases hb; exact new_src _ [_] _) (by simp [Value.oneCell']) (by omega) (by unfold maxLen; omega) ?_)
      intro a5 c5 wz q10
      clear e0 e1 e2 f0 f1 f2 q9
      obtain ⟨e0, e1, e2, f0, f1, f2⟩ := pq3 q10.p1
      have q11 := q10.p1.setCell 2 (.slice a5 (ns + 1) c5)
      rw [show (#[.slice a1 nl c1, .slice a2 nr c2, .slice a3 ns c3] : Array Value).setIfInBounds 2 (.slice a5 (ns + 1) c5) = #[.slice a1 nl c1, .slice a2 nr c2, .slice a5 (ns + 1) c5] from rfl] at q11
      have q12 := prf_settle (L := L) (R := R) (S := S ++ [y]) (show Sat W (wz.setCell ⟨pb, 2, none⟩ (.slice a5 (ns + 1) c5)) (sep (blk pb (.cells #[.slice a1 nl c1, .slice a2 nr c2, .slice a5 (ns + 1) c5] 49 (0, 0))) (sep (osl 43 1 a1 nl c1 ((L).map uv)) (sep (osl 43 1 a2 nr c2 ((R).map uv)) (sep (osl 5 1 a5 (ns + 1) c5 ((S ++ [y]).map bv)) (sep (kn J) (sep (blk q (.cells #[.slice none 0 0, .slice none 0 0, .slice none 0 0] 49 (0, 0))) A)))))) from by
        rw [List.map_append, ← HLV.out, ← HRV.out, ← HSV.out]
        rw [show [y].map bv = [.int .u8 (y.toNat : Int)] from rfl]
        simpa only [sep_comm, sep_lcomm, sep_assoc] using q11)
      obtain ⟨J2, l2, r2, q13⟩ := q12
      have HR : Hid (Mem.le J J2 ∧ prfR J2 (.agg #[.slice a1 nl c1, .slice a2 nr c2, .slice a5 (ns + 1) c5]) pp ∧ Sat W _ _) := Lib.hid ⟨l2, by rw [HPP.out]; rw [HY.out] at r2; exact r2, q13⟩
      clear q10 q11 q13 l2 r2
      go_wp2_with fail
      go_meet
      exact ⟨J2, _, _, _, _, _, _, _, _, _, Lib.hid ⟨HR.out.1, HR.out.2.1, by have := HR.out.2.2; simpa only [sep_comm, sep_lcomm, sep_assoc] using this⟩⟩
      /-VED5-/
    · skip
      /-DEV6-/
      have q12 := prf_settle (L := L) (R := R) (S := S) (show Sat W w9 (sep (blk pb (.cells #[.slice a1 nl c1, .slice a2 nr c2, .slice a3 ns c3] 49 (0, 0))) (sep (osl 43 1 a1 nl c1 (L.map uv)) (sep (osl 43 1 a2 nr c2 (R.map uv)) (sep (osl 5 1 a3 ns c3 (S.map bv)) (sep (kn J) (sep (blk q (.cells #[.slice none 0 0, .slice none 0 0, .slice none 0 0] 49 (0, 0))) A)))))) from by
        rw [← HLV.out, ← HRV.out, ← HSV.out]; exact H7.out)
      obtain ⟨J2, l2, r2, q13⟩ := q12
      clear e0 e1 e2 f0 f1 f2
      obtain ⟨e0, e1, e2, f0, f1, f2⟩ := pq3 q13
      by_cases hz : nl = 0
      · have HR := Lib.hid (And.intro l2 (And.intro r2 q13))
        have g0 : decide (0 < nl) = false := by simp [hz]
        have hL0 : L = [] := List.eq_nil_of_length_eq_zero (by rw [← HLEN.out.1]; exact hz)
        have HPR : Hid (prfR J2 (.agg #[.slice a1 nl c1, .slice a2 nr c2, .slice a3 ns c3]) pp) := Lib.hid (by rw [HPP.out]; rw [hL0] at r2 ⊢; exact r2)
        clear l2 r2 q13 hL0 hz
        go_wp2_with fail
        go_meet
        exact ⟨J2, _, _, _, _, _, _, _, _, _, Lib.hid ⟨HR.out.1, HPR.out, by have := HR.out.2.2; simpa only [sep_comm, sep_lcomm, sep_assoc] using this⟩⟩
      · have g0 : (nl : Int) > 0 := by omega
        have hne : L ≠ [] := fun e => hz (by rw [HLEN.out.1, e]; rfl)
        obtain ⟨u1, u2, u3, ee, s1, s2, s3⟩ := r2
        simp only [Value.agg.injEq, Array.mk.injEq, List.cons.injEq, and_true] at ee
        obtain ⟨rfl, rfl, rfl⟩ := ee
        obtain ⟨b1, o1, ea, -⟩ := hs_ext s1 hne
        obtain ⟨a1', c1', ev, sw, kc⟩ := hs_rel.1 s1
        simp only [Value.slice.injEq] at ev
        obtain ⟨rfl, enl, rfl⟩ := ev
        dsimp only at enl sw kc
        by_cases hc1 : c1 = 1
        · subst hc1
          have t1 : rHs.rel J2 [.slice (some ⟨b1, o1, none⟩) (nl - 1) 0] (L.drop 1) := hs_rel.2 ⟨_, _, by rw [List.length_drop, ← enl], ⟨by rw [List.length_drop, ← enl]; have := sw.1; omega, by unfold maxLen; omega, fun e => by cases e⟩, by rw [List.drop_eq_nil_of_le (by rw [← enl]; have := sw.1; omega)]; exact .inl rfl⟩
          have q14 := q13.setCell 0 (.slice (some ⟨b1, o1, none⟩) (nl - 1) 0)
          rw [show (#[.slice a1 nl 1, .slice a2 nr c2, .slice a3 ns c3] : Array Value).setIfInBounds 0 (.slice (some ⟨b1, o1, none⟩) (nl - 1) 0) = #[.slice (some ⟨b1, o1, none⟩) (nl - 1) 0, .slice a2 nr c2, .slice a3 ns c3] from rfl] at q14
          have HR : Hid (Mem.le J J2 ∧ prfR J2 (.agg #[.slice (some ⟨b1, o1, none⟩) (nl - 1) 0, .slice a2 nr c2, .slice a3 ns c3]) pp ∧ Sat W _ _) := Lib.hid ⟨l2, by rw [HPP.out]; exact ⟨_, _, _, rfl, t1, s2, s3⟩, q14⟩
          have HEA := Lib.hid ea
          clear l2 hne s1 s2 s3 ea sw kc enl t1 q14 q13
          go_wp2_with fail
          go_meet
          rw [HEA.out]
          exact ⟨J2, _, _, _, _, _, _, _, _, _, Lib.hid ⟨HR.out.1, HR.out.2.1, by have := HR.out.2.2; simpa only [sep_comm, sep_lcomm, sep_assoc] using this⟩⟩
        · have g5 : ¬ c1 - 1 = 0 := by have := sw.1; omega
          have t1 : rHs.rel J2 [.slice (some ⟨b1, o1 + 1, none⟩) (nl - 1) (c1 - 1)] (L.drop 1) := hs_rel.2 ⟨_, _, by rw [List.length_drop, ← enl], ⟨by rw [List.length_drop, ← enl]; have := sw.1; omega, by have := sw.2.1; omega, fun e => by cases e⟩, by rw [List.map_drop]; exact cells_tail ea kc⟩
          have q14 := q13.setCell 0 (.slice (some ⟨b1, o1 + 1, none⟩) (nl - 1) (c1 - 1))
          rw [show (#[.slice a1 nl c1, .slice a2 nr c2, .slice a3 ns c3] : Array Value).setIfInBounds 0 (.slice (some ⟨b1, o1 + 1, none⟩) (nl - 1) (c1 - 1)) = #[.slice (some ⟨b1, o1 + 1, none⟩) (nl - 1) (c1 - 1), .slice a2 nr c2, .slice a3 ns c3] from rfl] at q14
          have HR : Hid (Mem.le J J2 ∧ prfR J2 (.agg #[.slice (some ⟨b1, o1 + 1, none⟩) (nl - 1) (c1 - 1), .slice a2 nr c2, .slice a3 ns c3]) pp ∧ Sat W _ _) := Lib.hid ⟨l2, by rw [HPP.out]; exact ⟨_, _, _, rfl, t1, s2, s3⟩, q14⟩
          have HEA := Lib.hid ea
          clear hc1 l2 hne s1 s2 s3 ea sw kc enl t1 q14 q13
          go_wp2_with fail
          go_meet
          rw [HEA.out, Option.map_some]
          exact ⟨J2, _, _, _, _, _, _, _, _, _, Lib.hid ⟨HR.out.1, HR.out.2.1, by have := HR.out.2.2; simpa only [sep_comm, sep_lcomm, sep_assoc] using this⟩⟩
      /-VED6-/
    · skip
      /-DEV7-/
      have q12 := prf_settle (L := L) (R := R) (S := S) (show Sat W w9 (sep (blk pb (.cells #[.slice a1 nl c1, .slice a2 nr c2, .slice a3 ns c3] 49 (0, 0))) (sep (osl 43 1 a1 nl c1 (L.map uv)) (sep (osl 43 1 a2 nr c2 (R.map uv)) (sep (osl 5 1 a3 ns c3 (S.map bv)) (sep (kn J) (sep (blk q (.cells #[.slice none 0 0, .slice none 0 0, .slice none 0 0] 49 (0, 0))) A)))))) from by
        rw [← HLV.out, ← HRV.out, ← HSV.out]; exact H7.out)
      obtain ⟨J2, l2, r2, q13⟩ := q12
      clear e0 e1 e2 f0 f1 f2
      obtain ⟨e0, e1, e2, f0, f1, f2⟩ := pq3 q13
      by_cases hz : ns = 0
      · have HR := Lib.hid (And.intro l2 (And.intro r2 q13))
        have g0 : decide (0 < ns) = false := by simp [hz]
        have hL0 : S = [] := List.eq_nil_of_length_eq_zero (by rw [← HLEN.out.2.2]; exact hz)
        have HPR : Hid (prfR J2 (.agg #[.slice a1 nl c1, .slice a2 nr c2, .slice a3 ns c3]) pp) := Lib.hid (by rw [HPP.out]; rw [hL0] at r2 ⊢; exact r2)
        clear l2 r2 q13 hL0 hz
        go_wp2_with fail
        go_meet
        exact ⟨J2, _, _, _, _, _, _, _, _, _, Lib.hid ⟨HR.out.1, HPR.out, by have := HR.out.2.2; simpa only [sep_comm, sep_lcomm, sep_assoc] using this⟩⟩
      · have g0 : (ns : Int) > 0 := by omega
        have hne : S ≠ [] := fun e => hz (by rw [HLEN.out.2.2, e]; rfl)
        obtain ⟨u1, u2, u3, ee, s1, s2, s3⟩ := r2
        simp only [Value.agg.injEq, Array.mk.injEq, List.cons.injEq, and_true] at ee
        obtain ⟨rfl, rfl, rfl⟩ := ee
        obtain ⟨a1', c1', ev, sw, kc⟩ := bytes_rel.1 s3
        simp only [Value.slice.injEq] at ev
        obtain ⟨rfl, enl, rfl⟩ := ev
        dsimp only at enl sw kc
        obtain ⟨b1, o1, ea, -⟩ := cells_ext kc (by simpa using hne)
        by_cases hc1 : c3 = 1
        · subst hc1
          have t1 : rBytes.rel J2 [.slice (some ⟨b1, o1, none⟩) (ns - 1) 0] (S.drop 1) := bytes_rel.2 ⟨_, _, by rw [List.length_drop, ← enl], ⟨by rw [List.length_drop, ← enl]; have := sw.1; omega, by unfold maxLen; omega, fun e => by cases e⟩, by rw [List.drop_eq_nil_of_le (by rw [← enl]; have := sw.1; omega)]; exact .inl rfl⟩
          have q14 := q13.setCell 2 (.slice (some ⟨b1, o1, none⟩) (ns - 1) 0)
          rw [show (#[.slice a1 nl c1, .slice a2 nr c2, .slice a3 ns 1] : Array Value).setIfInBounds 2 (.slice (some ⟨b1, o1, none⟩) (ns - 1) 0) = #[.slice a1 nl c1, .slice a2 nr c2, .slice (some ⟨b1, o1, none⟩) (ns - 1) 0] from rfl] at q14
          have HR : Hid (Mem.le J J2 ∧ prfR J2 (.agg #[.slice a1 nl c1, .slice a2 nr c2, .slice (some ⟨b1, o1, none⟩) (ns - 1) 0]) pp ∧ Sat W _ _) := Lib.hid ⟨l2, by rw [HPP.out]; exact ⟨_, _, _, rfl, s1, s2, t1⟩, q14⟩
          have HEA := Lib.hid ea
          clear l2 hne s1 s2 s3 ea sw kc enl t1 q14 q13
          go_wp2_with fail
          go_meet
          rw [HEA.out]
          exact ⟨J2, _, _, _, _, _, _, _, _, _, Lib.hid ⟨HR.out.1, HR.out.2.1, by have := HR.out.2.2; simpa only [sep_comm, sep_lcomm, sep_assoc] using this⟩⟩
        · have g5 : ¬ c3 - 1 = 0 := by have := sw.1; omega
          have t1 : rBytes.rel J2 [.slice (some ⟨b1, o1 + 1, none⟩) (ns - 1) (c3 - 1)] (S.drop 1) := bytes_rel.2 ⟨_, _, by rw [List.length_drop, ← enl], ⟨by rw [List.length_drop, ← enl]; have := sw.1; omega, by have := sw.2.1; omega, fun e => by cases e⟩, by rw [List.map_drop]; exact cells_tail ea kc⟩
          have q14 := q13.setCell 2 (.slice (some ⟨b1, o1 + 1, none⟩) (ns - 1) (c3 - 1))
          rw [show (#[.slice a1 nl c1, .slice a2 nr c2, .slice a3 ns c3] : Array Value).setIfInBounds 2 (.slice (some ⟨b1, o1 + 1, none⟩) (ns - 1) (c3 - 1)) = #[.slice a1 nl c1, .slice a2 nr c2, .slice (some ⟨b1, o1 + 1, none⟩) (ns - 1) (c3 - 1)] from rfl] at q14
          have HR : Hid (Mem.le J J2 ∧ prfR J2 (.agg #[.slice a1 nl c1, .slice a2 nr c2, .slice (some ⟨b1, o1 + 1, none⟩) (ns - 1) (c3 - 1)]) pp ∧ Sat W _ _) := Lib.hid ⟨l2, by rw [HPP.out]; exact ⟨_, _, _, rfl, s1, s2, t1⟩, q14⟩
          have HEA := Lib.hid ea
          clear hc1 l2 hne s1 s2 s3 ea sw kc enl t1 q14 q13
          go_wp2_with fail
          go_meet
          rw [HEA.out, Option.map_some]
          exact ⟨J2, _, _, _, _, _, _, _, _, _, Lib.hid ⟨HR.out.1, HR.out.2.1, by have := HR.out.2.2; simpa only [sep_comm, sep_lcomm, sep_assoc] using this⟩⟩
      /-VED7-/
  case rest =>
    clear H7
    obtain ⟨J2, y1, y2, y3, m1, m2, m3, k1, k2, k3, HF⟩ := hcut
    obtain ⟨e0, e1, e2, -, -, -⟩ := pq3 HF.out.2.2
    obtain ⟨c0, c1, c2, f0, f1, f2⟩ := pq3 HF.out.2.2.p1
    have hx := pq3_set HF.out.2.2.p1 (.slice y1 m1 k1) (.slice y2 m2 k2) (.slice y3 m3 k3)
    obtain ⟨w9', hw9⟩ : ∃ z, z = ((wc.setCell ⟨q, 0, none⟩ (.slice y1 m1 k1)).setCell ⟨q, 1, none⟩ (.slice y2 m2 k2)).setCell ⟨q, 2, none⟩ (.slice y3 m3 k3) := ⟨_, rfl⟩
    rw [← hw9] at hx
    obtain ⟨d0, d1, d2, -, -, -⟩ := pq3 hx
    have HG := Lib.hid hx.drop.drop
    have HW9 := Lib.hid hw9
    clear hw9 hx
    go_wp2_with fail
    rw [← HW9.out]
    exact bodyPost_ret (v := .agg #[.slice y1 m1 k1, .slice y2 m2 k2, .slice y3 m3 k3]) (by simp [results, Tryd.results29, go_sem, d0, d1, d2]) rfl ⟨J2, _, Mem.le_trans HP.out.2.1 HF.out.1, rfl, HF.out.2.1, HG.out⟩
end Go.Proofs.YtcmjbjlliehdiaaDoor
