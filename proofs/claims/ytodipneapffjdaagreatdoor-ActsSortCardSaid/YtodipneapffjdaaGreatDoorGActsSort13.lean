/- The reference's Bytes and Encode of claims. -/
import Derived.Test.YtodipneapffjdaaGreatDoorGActsSort12
import Derived.Test.YtodipneapffjdaaGreatDoorGActsSort3
import Derived.Test.YtodipneapffjdaaGreatDoorGActsSort4
import Derived.Test.YtodipneapffjdaaGreatDoorSl
import Derived.Test.YtodipneapffjdaaGreatDoorGActsSort5
import Derived.Deep.DeepCutAuto
namespace Go.Proofs.YtodipneapffjdaaGreatDoor
open Go.RowKit PA
set_option maxHeartbeats 4000000 in
theorem r11bytes_spec {W w : World} {A : Assn} {I : Mem} (a : Option Addr) (n c : Nat) (l : List Cl) (hv : (rCl.slice 5).rel I [.slice a n c] l) (hok : ∀ x ∈ l, ClOK x) (hlen : (encCls l).length ≤ 134217728) (h : Sat W w (sep (kn I) A)) :
    Calls Tryz.prog 60 #[.slice a n c] w fun e w' => ∃ (b : Option Addr) (d : Nat) (J : Mem), e = .returned (.slice b (encCls l).length d) ∧ Mem.le I J ∧ rBytes.rel J [.slice b (encCls l).length d] (encCls l) ∧ Sat W w' (sep (kn J) A) := by
  have hn := (slice_len hv).1
  have hn31 : n ≤ 134217728 := by
    have key : ∀ l : List Cl, l.length ≤ (encClp l).length := by
      intro l
      induction l with
      | nil => simp
      | cons g l ih =>
        unfold encClp at ih ⊢
        rw [List.map_cons, List.flatten_cons, List.length_append, List.length_cons]
        have : 1 ≤ (encCl g).length := by
          unfold encCl encR; simp only [List.length_append]
          have := uvarint_pos (encFm g.body).length
          omega
        omega
    have := key l
    unfold encCls at hlen
    rw [List.length_append] at hlen
    omega
  obtain ⟨E, hE⟩ : ∃ E, E = encCls l := ⟨_, rfl⟩
  rw [← hE] at hlen ⊢
  obtain ⟨V, hV⟩ : ∃ V : Nat → List UInt8, V = fun j => PA.encI n ++ encClp (l.take j) := ⟨_, rfl⟩
  have hV0 : V 0 = PA.encI n := by rw [hV]; simp [encClp]
  have hVs : ∀ j g, l[j]? = some g → V (j + 1) = V j ++ encIs g.refs ++ encR (encFm g.body) := fun j g hg => by
    rw [hV]; simp only; unfold encClp; rw [flat_take encCl hg]; unfold encCl; simp only [List.append_assoc]
  have hVe : V n = E := by rw [hV, hE]; simp only; rw [hn, List.take_length]; rfl
  have hVl : ∀ j, (V j).length ≤ 134217728 := fun j => by
    rw [hV]; simp only [List.length_append]
    have := flat_le encCl l j
    rw [hE] at hlen; unfold encCls at hlen; rw [List.length_append, ← hn] at hlen
    unfold encClp at hlen ⊢; omega
  have HVL := Lib.hid hVl
  have HV := Lib.hid (And.intro hV0 (And.intro hVs hVe))
  have HOK := Lib.hid hok
  have HN := Lib.hid hn
  have HR := Lib.hid hv
  have H := Lib.hid h
  obtain ⟨Po, hPo⟩ : ∃ P : Ending → World → Prop, P = fun e w' => ∃ (b : Option Addr) (d : Nat) (J : Mem), e = .returned (.slice b E.length d) ∧ Mem.le I J ∧ rBytes.rel J [.slice b E.length d] E ∧ Sat W w' (sep (kn J) A) := ⟨_, rfl⟩
  rw [← hPo]
  have HPO := Lib.hid hPo
  have hb0 := encI_le (r := (n : Int)) (by omega) (by omega)
  clear hv hok hlen h hn hE hV hV0 hVs hVe hVl hPo
  have n63 : (n : Int) ≤ 9223372036854775807 := by omega
  go_enter Tryz.func60, Tryz.ntmps60
  go_wp2_with fail
  refine (rint_spec (n : Int) (by omega) (by omega) H.out).mono ?_
  rintro e w2 ⟨a1, c1, rfl, h2⟩
  obtain ⟨m, hm⟩ : ∃ m, m = (PA.encI n).length := ⟨_, rfl⟩
  obtain ⟨vs, hvs⟩ : ∃ vs, vs = (PA.encI n).map bv := ⟨_, rfl⟩
  rw [← hm, ← hvs] at h2
  rw [← hm]
  have HM := Lib.hid (And.intro hm hvs)
  have H2 := Lib.hid h2
  clear hm hvs h2 H hb0
  go_wp2_with fail
  go_loopw [3, 4] (fun ov kv wr => ∃ (k : Nat) (a' : Option Addr) (n' c' : Nat) (vs : List Value) (J : Mem), ov = .slice a' n' c' ∧ kv = .int .i64 k ∧ k ≤ n ∧ Hid (n' = (V k).length ∧ vs = (V k).map bv ∧ Mem.le I J) ∧ Sat W wr (sep (osl 5 1 a' n' c' vs) (sep (kn J) A))) (fun _ kv _ => n - (intOf kv).toNat)
  case atStart => exact ⟨0, a1, m, c1, vs, I, rfl, rfl, by omega, Lib.hid ⟨by rw [HM.out.1, HV.out.1], by rw [HM.out.2, HV.out.1], Mem.le_refl I⟩, H2.out⟩
  case round =>
    obtain ⟨k, a', n', c', vs', J, rfl, rfl, hk, HVV, hS⟩ := hrel
    clear H2
    by_cases hlt : k < n
    · have hltz : (k : Int) < (n : Int) := by omega
      obtain ⟨g, hg⟩ : ∃ g, l[k]? = some g := ⟨_, List.getElem?_eq_getElem (by have := HN.out; omega)⟩
      have hgm : g ∈ l := List.mem_of_getElem? hg
      obtain ⟨b, o, ra, rc, p, q, x1, n1, d1, x2, n2, d2, rfl, hrr, hrb, hcell⟩ := cl_elem HR.out hg
      have hext : Ext I wr := ext_le HVV.out.2.2 hS.p1.ext
      obtain ⟨k0, k1, k2, k3, k4⟩ := hcell wr hext
      obtain ⟨nr, hnr⟩ : ∃ z, z = g.refs.length := ⟨_, rfl⟩
      have hOKg := HOK.out g hgm
      have hrs := rints_spec (W := W) (w := wr) (A := sep (osl 5 1 a' n' c' vs') (sep (kn J) A)) ra nr rc g.refs hnr hOKg.rn hOKg.r64 (fun w' B hs i r hr => by
        obtain ⟨b', o', e', hc'⟩ := int_elem hrr hr
        exact ⟨b', o', e', hc' w' (ext_le HVV.out.2.2 hs.p2.ext)⟩) hS
      obtain ⟨m1, hm1⟩ : ∃ z, z = (encIs g.refs).length := ⟨_, rfl⟩
      obtain ⟨v1, hv1⟩ : ∃ z, z = (encIs g.refs).map bv := ⟨_, rfl⟩
      obtain ⟨m2, hm2⟩ : ∃ z, z = (encR (encFm g.body)).length := ⟨_, rfl⟩
      obtain ⟨v2, hv2⟩ : ∃ z, z = (encR (encFm g.body)).map bv := ⟨_, rfl⟩
      rw [← hnr] at k0
      rw [← hm1, ← hv1] at hrs
      have hb1 : n' + m1 + m2 ≤ 134217728 := by
        have h1 := HVL.out (k + 1)
        rw [HV.out.2.1 k g hg, List.length_append, List.length_append, ← HVV.out.1, ← hm1, ← hm2] at h1
        exact h1
      have HRS := Lib.hid hrs
      have HNX : Hid (V (k + 1) = V k ++ encIs g.refs ++ encR (encFm g.body) ∧ k < n) := Lib.hid ⟨HV.out.2.1 k g hg, hlt⟩
      have HM1 := Lib.hid (And.intro hm1 hv1)
      have HM2 := Lib.hid (And.intro hm2 hv2)
      have HBY : Hid (∀ w' A' J', Mem.le I J' → Sat W w' (sep (kn J') A') → Calls Tryz.prog 58 #[.agg #[.int .i64 p, .int .i64 q, .slice x1 n1 d1, .slice x2 n2 d2]] w' fun e w'' => ∃ (a : Option Addr) (c : Nat) (J2 : Mem), e = .returned (.slice a (encFm g.body).length c) ∧ Mem.le J' J2 ∧ rBytes.rel J2 [.slice a (encFm g.body).length c] (encFm g.body) ∧ Sat W w'' (sep (kn J2) A')) := Lib.hid fun w' A' J' hl h' => by
        refine (r07bytes_spec g.body w' A' p q x1 n1 d1 x2 n2 d2 (rF.mono hl hrb) hOKg.b64 (by have := hOKg.bl; omega) h').mono ?_
        rintro e w'' ⟨a, c, rfl, h3⟩
        obtain ⟨J2, hle, hr', h4⟩ := osl_learnY h3 rfl
        exact ⟨a, c, J2, rfl, hle, hr', h4⟩
      have HFL := Lib.hid (show (encFm g.body).length ≤ 1073741824 by have := hOKg.bl; omega)
      obtain ⟨mb, hmb⟩ : ∃ z, z = (encFm g.body).length := ⟨_, rfl⟩
      rw [← hmb] at HBY HFL
      have HMB := Lib.hid hmb
      have HC := Lib.hid hcell
      have HBB := Lib.hid hb1
      clear hg hgm hrr hrb hcell hext hOKg hrs hm1 hv1 hm2 hv2 hb1 hnr hlt hk hS hmb
      go_upto_region 5 with (fail)
      go_wp2_with fail
      refine HRS.out.mono ?_
      rintro e w3 ⟨a2, c2, rfl, h3⟩
      clear HRS k0 k1 k2 k3 k4
      have HSO : Hid (SrcOw w3 a2 m1 v1) := Lib.hid (by rw [HM1.out.2, HM1.out.1] at h3 ⊢; exact osl_ow h3)
      have h4 := h3.drop
      clear h3
      go_wp2_with (at_builtin; (refine wpl_append_osl rfl (.tmp 14) (.tmp 20) 50 rfl 5 1 1 (.int .u8 0) Tryz.underlying50 infoU8w rfl rfl h4 rfl v1 HSO.out.len HSO.out.nil HSO.out.src HSO.out.one (by have := HBB.out; omega) (by have := HBB.out; unfold maxLen; omega) ?_))
      intro a4 c4 w4 h5
      have H5 := Lib.hid h5
      obtain ⟨k0, k1, k2, k3, k4⟩ := HC.out w4 (ext_le HVV.out.2.2 h5.p1.ext)
      clear h4 h5 HSO
      go_upto_region 6 with (fail)
      go_wp2_with fail
      refine (HBY.out w4 _ J HVV.out.2.2 (show Sat W w4 (sep (kn J) (sep (osl 5 1 a4 (n' + m1) c4 (vs' ++ v1)) A)) from by have := H5.out; simpa only [sep_comm, sep_lcomm, sep_assoc] using this)).mono ?_
      rintro e w5 ⟨a5, c5, J2, rfl, hle2, hr2, h6⟩
      have HJ2 := Lib.hid (And.intro hle2 hr2)
      have H6 := Lib.hid h6
      clear h6 hle2 hr2 HBY k0 k1 k2 k3 k4 H5
      go_wp2_with fail
      refine (rraw_spec (.slice a5 mb c5) (encFm g.body) H6.out HJ2.out.2 (by rw [← HMB.out]; exact HFL.out)).mono ?_
      rintro e w6 ⟨a6, c6, rfl, h7⟩
      rw [← HM2.out.1, ← HM2.out.2] at h7
      rw [← HM2.out.1]
      have HSO : Hid (SrcOw w6 a6 m2 v2) := Lib.hid (by rw [HM2.out.2, HM2.out.1] at h7 ⊢; exact osl_ow h7)
      have h8 : Sat W w6 (sep (osl 5 1 a4 (n' + m1) c4 (vs' ++ v1)) (sep (kn J2) A)) := by have := h7.drop; simpa only [sep_comm, sep_lcomm, sep_assoc] using this
      clear h7 H6
      go_wp2_with (at_builtin; (refine wpl_append_osl rfl (.tmp 22) (.tmp 29) 50 rfl 5 1 1 (.int .u8 0) Tryz.underlying50 infoU8w rfl rfl h8 rfl v2 HSO.out.len HSO.out.nil HSO.out.src HSO.out.one (by have := HBB.out; omega) (by have := HBB.out; unfold maxLen; omega) ?_))
      intro a7 c7 w7 h9
      have H9 := Lib.hid h9
      clear h8 h9 HSO
      go_wp2_with fail
      go_roundw
      case rel =>
        refine ⟨k + 1, a7, n' + m1 + m2, c7, _, J2, rfl, by go_num, by have := HNX.out.2; omega, Lib.hid ⟨?_, ?_, Mem.le_trans HVV.out.2.2 HJ2.out.1⟩, H9.out⟩
        · rw [HNX.out.1, List.length_append, List.length_append, HVV.out.1, HM1.out.1, HM2.out.1]
        · rw [HNX.out.1, List.map_append, List.map_append, HVV.out.2.1, HM1.out.2, HM2.out.2, List.append_assoc]
      case measure => simp [intOf]; have := HNX.out.2; omega
    · obtain rfl : k = n := by omega
      have HF : Hid (n' = E.length ∧ vs' = E.map bv ∧ Mem.le I J) := Lib.hid (by rw [← HV.out.2.2]; exact HVV.out)
      have h5 : Sat W wr (sep (osl 5 1 a' n' c' (E.map bv)) (sep (kn J) A)) := by rw [← HF.out.2.1]; exact hS
      obtain ⟨J2, hle2, hr2, h6⟩ := osl_learnY h5 HF.out.1
      have HS := Lib.hid (And.intro hle2 (And.intro hr2 h6))
      clear hS HVV h5 hle2 hr2 h6 hlt hk
      go_wp2
      rw [HPO.out]
      exact ⟨a', c', J2, by rw [← HF.out.1]; try rfl, Mem.le_trans HF.out.2.2 HS.out.1, by rw [← HF.out.1]; exact HS.out.2.1, HS.out.2.2⟩
set_option maxHeartbeats 2000000 in
theorem r11encode_spec {W w : World} {A : Assn} {I : Mem} (a : Option Addr) (n c : Nat) (l : List Cl) (hv : (rCl.slice 5).rel I [.slice a n c] l) (hB : ∀ x ∈ l, x.body.size ≤ FmB) (hok : ∀ x ∈ l, ClOK x) (hlen : (encCls l).length ≤ 134217728) (h : Sat W w (sep (kn I) A)) :
    Calls Tryz.prog 34 #[.slice a n c] w fun e w' => ∃ (b : Option Addr) (m d : Nat) (J : Mem), e = .returned (.tuple #[.slice b m d, .int .i64 (clE l)]) ∧ Mem.le I J ∧ rBytes.rel J [.slice b m d] (encCls0 l) ∧ Sat W w' (sep (kn J) A) := by
  have H1 := Lib.hid h
  obtain ⟨rv, hrv⟩ : ∃ z, z = clE l := ⟨_, rfl⟩
  obtain ⟨E, hE⟩ : ∃ z, z = encCls0 l := ⟨_, rfl⟩
  have HVS : Hid (∀ w' A', Sat W w' (sep (kn I) A') → Calls Tryz.prog 59 #[.slice a n c] w' fun e w'' => e = .returned (.int .i64 rv) ∧ Sat W w'' (sep (kn I) A')) := Lib.hid fun w' A' h' => by rw [hrv]; exact r11valid_spec a n c l hv hB h'
  have HBY : Hid (rv = 0 → ∀ w' A', Sat W w' (sep (kn I) A') → Calls Tryz.prog 60 #[.slice a n c] w' fun e w'' => ∃ (a : Option Addr) (n c : Nat) (J : Mem), e = .returned (.slice a n c) ∧ Mem.le I J ∧ rBytes.rel J [.slice a n c] E ∧ Sat W w'' (sep (kn J) A')) := Lib.hid fun h0 w' A' h' => by
    refine (r11bytes_spec a n c l hv hok hlen h').mono ?_
    rintro e w'' ⟨b, d, J, rfl, hle, hr', h4⟩
    refine ⟨b, _, d, J, rfl, hle, ?_, h4⟩
    rw [hE]; unfold encCls0; rw [if_pos (by rw [← hrv]; exact h0)]; exact hr'
  have HEN : Hid (rv ≠ 0 → E = []) := Lib.hid fun h0 => by rw [hE]; unfold encCls0; rw [if_neg (by rw [← hrv]; exact h0)]
  rw [← hrv, ← hE]
  obtain ⟨Po, hPo⟩ : ∃ P : Ending → World → Prop, P = fun e w' => ∃ (b : Option Addr) (m d : Nat) (J : Mem), e = .returned (.tuple #[.slice b m d, .int .i64 rv]) ∧ Mem.le I J ∧ rBytes.rel J [.slice b m d] E ∧ Sat W w' (sep (kn J) A) := ⟨_, rfl⟩
  rw [← hPo]
  have HPO := Lib.hid hPo
  clear hv hB hok hlen h hrv hE hPo
  by_cases hb0 : rv = 0
  · subst hb0
    have HBX := Lib.hid (HBY.out rfl)
    clear HBY HEN
    go_enter Tryz.func34, Tryz.ntmps34
    go_wp2_with fail
    refine (HVS.out _ _ H1.out).mono ?_
    rintro e w2 ⟨rfl, h2⟩
    have H2 := Lib.hid h2
    clear h2 HVS
    go_wp2_with fail
    refine (HBX.out _ _ H2.out).mono ?_
    rintro e w3 ⟨a, n, c, J, rfl, hle, hr, h3⟩
    have HF := Lib.hid (And.intro hle (And.intro hr h3))
    clear h3 hle hr HBX
    go_wp2
    rw [HPO.out]
    exact ⟨a, n, c, J, rfl, HF.out.1, HF.out.2.1, HF.out.2.2⟩
  · have HE0 := Lib.hid (HEN.out hb0)
    have hb1 : (rv != 0) = true := by simpa using hb0
    have hb2 : (rv == 0) = false := by simpa using hb0
    clear HBY HEN hb0
    go_enter Tryz.func34, Tryz.ntmps34
    go_wp2_with fail
    refine (HVS.out _ _ H1.out).mono ?_
    rintro e w2 ⟨rfl, h2⟩
    have HF := Lib.hid h2
    clear h2 HVS
    go_wp2
    rw [HPO.out]
    exact ⟨none, 0, 0, I, rfl, Mem.le_refl I, by rw [HE0.out]; exact bytes_nilY I, HF.out⟩
end Go.Proofs.YtodipneapffjdaaGreatDoor
/- What came in: rows of integers and of bytes, as known slices. -/
namespace PA
open Go Go.RowKit
def wm (w : World) : Mem := fun b => w.heap[b]?
theorem Sat.startKn (W : World) : Sat W W (sep (kn (wm W)) emp) :=
  ⟨rfl, rfl, rfl, wm W, Mem.no, fun _ _ h => h, fun _ _ h => h, fun _ _ h => (by simp [Mem.no] at h), Mem.no, Mem.no, fun _ => .inl rfl, (Mem.un_no _).symm, ⟨rfl, Mem.le_refl _⟩, rfl⟩
theorem ints_rel {I : Mem} {v : Value} {ns : List Int} : (rInt.slice 1).rel I [v] ns ↔ ∃ a c, v = .slice a ns.length c ∧ Swf a ns.length c ∧ cellsAt a (ns.map iv) I := by
  constructor
  · rintro ⟨a, c, cells, h1, h2, h3, h4⟩
    cases h1
    rw [(rows_rInt _ _ _).1 h4] at h3
    exact ⟨a, c, rfl, h2, h3⟩
  · rintro ⟨a, c, rfl, h2, h3⟩
    exact ⟨a, c, _, rfl, h2, h3, (rows_rInt _ _ _).2 rfl⟩
theorem cellsAt_of {w : World} {x : Addr} {us : List Value} (h : ∀ j u, us[j]? = some u → w.cell? (x.add j) = some u) : cellsAt (some x) us (wm w) := by
  cases us with
  | nil => exact .inl rfl
  | cons u us =>
    right
    have h0 := h 0 u rfl
    have e0 : x.add 0 = x := rfl
    rw [e0] at h0
    obtain ⟨b, o, sp⟩ := x
    unfold World.cell? at h0
    dsimp only at h0
    cases hb : w.heap[b]? with
    | none => rw [hb] at h0; cases h0
    | some ob =>
      rw [hb] at h0
      cases ob with
      | cells c t f =>
        dsimp only at h0
        cases sp with
        | some q => simp at h0
        | none =>
          refine ⟨b, o, c, t, f, rfl, hb, fun i v hv => ?_⟩
          have hi := h i v hv
          have e : (⟨b, o, none⟩ : Addr).add i = ⟨b, o + i, none⟩ := by unfold Addr.add; split <;> simp_all
          rw [e] at hi
          unfold World.cell? at hi
          dsimp only at hi
          rw [hb] at hi
          simpa using hi
      | _ => cases h0
end PA
namespace Go.Proofs.YtodipneapffjdaaGreatDoor
open Go.RowKit PA
def I64' (n : Int) : Prop := -9223372036854775808 ≤ n ∧ n ≤ 9223372036854775807
/-- A row of integers that came in. -/
def IsArg (w : World) (a : Option Addr) (len cap : Nat) (zs : List Int) : Prop :=
  (a = none ∧ len = 0 ∧ cap = 0 ∧ zs = []) ∨
  ∃ x, a = some x ∧ len ≤ cap ∧ cap ≤ maxLen ∧ zs.length = cap ∧ (∀ i, i < zs.length → w.cell? (x.add i) = some (.int .i64 (zs.getD i 0))) ∧ ∀ n ∈ zs, (Lit.int .i64 n).wf = true
theorem argI {w : World} {a : Option Addr} {len cap : Nat} {zs : List Int} (h : IsArg w a len cap zs) :
    ∃ l : List Int, len = l.length ∧ (rInt.slice 1).rel (wm w) [.slice a len cap] l ∧ ∀ n ∈ l, I64' n := by
  rcases h with ⟨rfl, rfl, rfl, rfl⟩ | ⟨x, rfl, h1, h2, h3, h4, h5⟩
  · exact ⟨[], rfl, ints_rel.2 ⟨none, 0, rfl, ⟨Nat.le_refl _, Nat.zero_le _, fun _ => rfl⟩, .inl rfl⟩, fun n hn => by cases hn⟩
  · have hl : len = (zs.take len).length := by simp; omega
    refine ⟨zs.take len, hl, ints_rel.2 ⟨some x, cap, by rw [← hl], ⟨by rw [← hl]; exact h1, h2, fun e => by cases e⟩, cellsAt_of fun j u hu => ?_⟩, fun n hn => ?_⟩
    · rw [List.getElem?_map, List.getElem?_take] at hu
      split at hu
      · rename_i hj
        have hjz : j < zs.length := by omega
        rw [List.getElem?_eq_getElem hjz] at hu
        rw [h4 j hjz, ← hu, List.getD_eq_getElem?_getD, List.getElem?_eq_getElem hjz]
        rfl
      · cases hu
    · exact i64_of_wf (h5 n (List.mem_of_mem_take hn))
end Go.Proofs.YtodipneapffjdaaGreatDoor
/- A row of ratios in memory, its places by a function. Plain Lean, no program in sight. -/
namespace PA
open Go Go.RowKit
section
variable {W w : World} {A : Assn} {t g N : Nat} {f : Nat → Rt}
end
end PA
/- The generator of chapter 18: Pick, and the maker's next number. -/
namespace PA
open Go Go.Proofs.YtodipneapffjdaaGreatDoor
/-- The number at an index, below a bound; 0 behind the end. -/
def pickA (l : List Int) (i : Nat) (n : Int) : Int := match l[i]? with | some x => aroundI x n | none => 0
theorem pickA_bd (l : List Int) (i : Nat) (n : Int) (hn : 0 < n) : 0 ≤ pickA l i n ∧ pickA l i n < n := by
  unfold pickA
  split
  · exact aroundI_lt _ _ hn
  · omega
end PA
namespace Go.Proofs.YtodipneapffjdaaGreatDoor
open Go.RowKit PA
/-- What the maker reads its numbers from. -/
def MkV (I : Mem) (va : Value) (l : List Int) : Prop := (∃ a c, va = .slice a l.length c) ∧ (rInt.slice 1).rel I [va] l ∧ ∀ z ∈ l, I64' z
theorem MkV.mono {I J : Mem} {va : Value} {l : List Int} (hl : Mem.le I J) (h : MkV I va l) : MkV J va l := ⟨h.1, (rInt.slice 1).mono hl h.2.1, h.2.2⟩
def mkr (B : Nat) (va : Value) (pos day : Int) (fv : Value) : Assn := blk B (.cells #[va, .int .i64 pos, .int .i64 day, fv] 45 (0, 0))
theorem pick_spec {W w : World} {A : Assn} {I : Mem} (va : Value) (l : List Int) (i : Nat) (n : Int) (hn0 : 0 < n) (hn1 : n ≤ 1099511627776) (hi : i ≤ 1000000) (hv : MkV I va l) (h : Sat W w (sep (kn I) A)) :
    Calls Tryz.prog 24 #[va, .int .i64 i, .int .i64 n] w fun e w' => e = .returned (.int .i64 (pickA l i n)) ∧ w = w' := by
  obtain ⟨⟨a, c, rfl⟩, hv, hl⟩ := hv
  obtain ⟨a', c', e, hsw, hc⟩ := ints_rel.1 hv
  simp only [Value.slice.injEq] at e
  obtain ⟨rfl, -, rfl⟩ := e
  obtain ⟨r, hr⟩ : ∃ r, r = pickA l i n := ⟨_, rfl⟩
  rw [← hr]
  unfold pickA at hr
  have HR := Lib.hid hr
  have hlen : (l.length : Int) ≤ 9223372036854775807 := by
    have h1 := hsw.1; have h2 := hsw.2.1; unfold maxLen at h2; omega
  have hiI : (i : Int) ≤ 1000000 := by omega
  by_cases hlt : i < l.length
  · have hltz : ¬ (l.length : Int) ≤ (i : Int) := by omega
    have hltz2 : (i : Int) < (l.length : Int) := by omega
    obtain ⟨b, o, rfl, hcell⟩ := cells_ext hc (fun e => by have := congrArg List.length e; simp at this; rw [this] at hlt; simp at hlt)
    obtain ⟨x, hx⟩ : ∃ x, x = l[i] := ⟨_, rfl⟩
    have c0 := hcell w h.ext i (PA.iv x) (by rw [List.getElem?_map, List.getElem?_eq_getElem hlt, hx]; rfl)
    unfold PA.iv at c0
    have hx64 := hl x (by rw [hx]; exact List.getElem_mem hlt)
    have HX : Hid (r = aroundI x n) := Lib.hid (by rw [HR.out, List.getElem?_eq_getElem hlt, hx])
    have HA := Lib.hid (around_spec x n w hx64.1 hx64.2 (by omega) (by omega))
    obtain ⟨ll, hll⟩ : ∃ ll, ll = l.length := ⟨_, rfl⟩
    rw [← hll] at hlen hltz hltz2 ⊢
    clear hv hc hcell hl hr hx hll h hsw hx64 HR
    go_enter Tryz.func24, Tryz.ntmps24
    go_wp2_with fail
    refine HA.out.mono ?_
    rintro e w2 ⟨rfl, rfl⟩
    go_wp2
    go_ret
    exact ⟨ret_i HX.out.symm, rfl⟩
  · have hltz : (l.length : Int) ≤ (i : Int) := by omega
    have HX : Hid (r = 0) := Lib.hid (by rw [HR.out, List.getElem?_eq_none (by omega)])
    obtain ⟨ll, hll⟩ : ∃ ll, ll = l.length := ⟨_, rfl⟩
    rw [← hll] at hlen hltz ⊢
    clear hv hc hl hr hll h hsw HR
    go_enter Tryz.func24, Tryz.ntmps24
    go_wp2
    go_ret
    exact ⟨ret_i HX.out.symm, rfl⟩
theorem next_spec {W w : World} {A : Assn} {I : Mem} {B : Nat} {day : Int} {fv : Value} (va : Value) (l : List Int) (i : Nat) (n : Int) (hn0 : 0 < n) (hn1 : n ≤ 1099511627776) (hi : i < 1000000) (hv : MkV I va l) (h : Sat W w (sep (mkr B va i day fv) (sep (kn I) A))) :
    Calls Tryz.prog 11 #[.pointer (some ⟨B, 0, none⟩), .int .i64 n] w fun e w' => e = .returned (.int .i64 (pickA l i n)) ∧ Sat W w' (sep (mkr B va ((i + 1 : Nat) : Int) day fv) (sep (kn I) A)) := by
  unfold mkr at h ⊢
  obtain ⟨r, hr⟩ : ∃ r, r = pickA l i n := ⟨_, rfl⟩
  rw [← hr]
  have c1 : w.cell? ⟨B, 1, none⟩ = some (.int .i64 i) := h.cell 1
  have f1 : w.frozen? ⟨B, 1, none⟩ = false := h.unfrozen 1
  obtain ⟨w1, hw1⟩ : ∃ w1, w1 = w.setCell ⟨B, 1, none⟩ (.int .i64 ((i + 1 : Nat) : Int)) := ⟨_, rfl⟩
  have h1 := h.setCell 1 (.int .i64 ((i + 1 : Nat) : Int))
  rw [← hw1] at h1
  have h1d : Sat W w1.drew (sep (blk B (.cells #[va, .int .i64 ((i + 1 : Nat) : Int), .int .i64 day, fv] 45 (0, 0))) (sep (kn I) A)) := h1.drew
  have hx : (i : Int) + 1 = ((i + 1 : Nat) : Int) := by omega
  obtain ⟨i1, hi1⟩ : ∃ i1, i1 = ((i + 1 : Nat) : Int) := ⟨_, rfl⟩
  rw [← hi1] at hw1 hx h1d ⊢
  have hiI : (i : Int) < 1000000 := by omega
  have d0 : w1.drew.cell? ⟨B, 0, none⟩ = some va := h1d.cell 0
  have d1 : w1.drew.cell? ⟨B, 1, none⟩ = some (.int .i64 i1) := h1d.cell 1
  have hx2 : IntKind.i64.wrap (i1 - 1) = (i : Int) := by
    have : i1 - 1 = (i : Int) := by omega
    rw [this]; unfold IntKind.wrap; simp [IntKind.bits, IntKind.signed]; omega
  have HP := Lib.hid (pick_spec va l i n hn0 hn1 (by omega) hv h1d.p1)
  have HD := Lib.hid h1d
  have HW1 := Lib.hid hw1
  rw [← hr] at HP
  clear hr h h1 h1d hi1 hw1
  go_enter Tryz.func11, Tryz.ntmps11
  go_upto_region 2 with (fail)
  rw [← HW1.out]
  refine wp_region_canon rfl (fun _ => True) [(0, .p), (1, .p), (2, .p), (3, .t), (4, .p), (5, .p), (6, .p), (7, .t), (8, .p), (9, .p), (10, .e false), (11, .p)] (by kernel_rfl) ?_
  have hS0 : True := trivial
  (repeat ((first | (refine C_p (v := ?_) rfl rfl (fun w' => ?_) ?_; rotate_left; (go_simp; with_reducible rfl)) | (refine C_s (v := ?_) rfl rfl hS0 (fun w' hS => ?_) ?_; rotate_left; ((try dsimp only at hS); go_simp; with_reducible rfl)) | (refine C_t (v := ?_) rfl rfl ?_ ?_; rotate_left; (go_simp; with_reducible rfl)) | (refine C_po rfl rfl ?_) | (refine C_so rfl rfl hS0 ?_) | (refine C_to rfl rfl ?_)); simp only [Act.put, List.setIfInBounds_toArray, List.set_cons_zero, List.set_cons_succ]))
  (refine C_e rfl rfl (fun K hK => ?_); go_simp)
  refine HP.out.mono ?_
  rintro e w2 ⟨rfl, rfl⟩
  (refine hK _ _ (fun h => by cases h) ?_; clear hK K; (try simp only [Act.put, List.setIfInBounds_toArray, List.set_cons_zero, List.set_cons_succ]))
  (repeat ((first | (refine C_p (v := ?_) rfl rfl (fun w' => ?_) ?_; rotate_left; (go_simp; with_reducible rfl)) | (refine C_s (v := ?_) rfl rfl hS0 (fun w' hS => ?_) ?_; rotate_left; ((try dsimp only at hS); go_simp; with_reducible rfl)) | (refine C_t (v := ?_) rfl rfl ?_ ?_; rotate_left; (go_simp; with_reducible rfl)) | (refine C_po rfl rfl ?_) | (refine C_so rfl rfl hS0 ?_) | (refine C_to rfl rfl ?_)); simp only [Act.put, List.setIfInBounds_toArray, List.set_cons_zero, List.set_cons_succ]))
  refine C_nil ?_
  go_wp2
  go_ret
  exact ⟨rfl, HD.out⟩
end Go.Proofs.YtodipneapffjdaaGreatDoor
/- Literals of bytes and of other one-cell elements. -/
namespace Go.Proofs.YtodipneapffjdaaGreatDoor
open Go.RowKit PA
theorem litI {W w : World} {A : Assn} {I : Mem} (h : Sat W w (sep (kn I) A)) (ns : List Int) (t : TypeId) (hb : ns.length ≤ maxLen) :
    ∃ J, Mem.le I J ∧ (rInt.slice 1).rel J [.slice (some ⟨w.heap.size, 0, none⟩) ns.length ns.length] ns ∧ Sat W (w.alloc (.cells (ns.map iv).toArray t)) (sep (kn J) A) := by
  have h1 := (h.alloc (.cells (ns.map iv).toArray t)).settle
  obtain ⟨J, hle, hp, h2⟩ := (show Sat W _ (sep (imm w.heap.size (.cells (ns.map iv).toArray t)) (sep (kn I) A)) from h1).learn
  refine ⟨J, hle, ints_rel.2 ⟨_, _, rfl, ⟨Nat.le_refl _, hb, fun h => by cases h⟩, .inr ⟨w.heap.size, 0, _, t, (0, 0), rfl, hp, fun i u hu => by simpa using hu⟩⟩, h2⟩
theorem nilI (I : Mem) : (rInt.slice 1).rel I [.slice none 0 0] [] := ints_rel.2 ⟨none, 0, rfl, ⟨Nat.le_refl _, Nat.zero_le _, fun _ => rfl⟩, .inl rfl⟩
end Go.Proofs.YtodipneapffjdaaGreatDoor
