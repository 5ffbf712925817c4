/- The reference's map: Leaf, Hash, Root, on whatever shows its pairs. -/
import Derived.Test.YtcmjbjlliehdiaaDoorGAuthmapChecks23
import Derived.Test.YtcmjbjlliehdiaaDoorGAuthmapChecks27
namespace PA
open Go
theorem lkP_get : ∀ {L : PrL}, AscP L → ∀ (i : Nat) (hi : i < L.length), lkP L L[i].1 = some L[i].2
  | [], _, i, hi => by simp at hi
  | x :: l, h, 0, _ => by simp [lkP]
  | x :: l, h, i + 1, hi => by
    have hi' : i < l.length := by simpa using hi
    have := h.cons.1 _ (List.getElem_mem hi')
    simp only [List.getElem_cons_succ, lkP]
    rw [if_neg (by omega)]
    exact lkP_get h.cons.2 i hi'
theorem lkP_mem {L : PrL} {k : Int} (h : ∀ (i : Nat) (hi : i < L.length), L[i].1 ≠ k) : lkP L k = none :=
  lkP_none fun x hx => by
    obtain ⟨i, hi, rfl⟩ := List.mem_iff_getElem.1 hx
    exact h i hi
end PA
namespace Go.Proofs.YtcmjbjlliehdiaaDoor
open Go.RowKit PA
attribute [local go_sem] Oper.semAt_some
/-- Whatever shows the pairs of a map of the reference. -/
def QV (W : World) (V : Assn) (q : Nat) (L : PrL) : Prop := ∀ (w : World) (I : Mem) (R : Assn), Sat W w (sep V (sep (kn I) R)) → ∃ a c, w.cell? ⟨q, 0, none⟩ = some (.slice a L.length c) ∧ L.length ≤ c ∧ c ≤ maxLen ∧
  ∀ (i : Nat) (hi : i < L.length), ∃ b o va vc J, a = some ⟨b, o, none⟩ ∧ w.cell? ⟨b, o + i * 2, none⟩ = some (.int .i64 L[i].1) ∧ w.cell? ⟨b, o + i * 2 + 1, none⟩ = some (.slice va L[i].2.length vc) ∧ Mem.le I J ∧ rBytes.rel J [.slice va L[i].2.length vc] L[i].2 ∧ Sat W w (sep V (sep (kn J) R))
def qmA (q : Nat) (L : PrL) : Assn := pers (fun I => qmR I q L) fun _ _ hl h => h.mono hl
theorem qv_kn (W : World) (q : Nat) (L : PrL) : QV W (qmA q L) q L := by
  intro w I R h
  obtain ⟨J, hJ, hq, h2⟩ := (show Sat W w (sep (qmA q L) (sep (kn I) R)) from h).learn
  obtain ⟨a, c, h3, h4⟩ := qm_look hq h2
  obtain ⟨a', c', hx, hsw⟩ := slice_formQ h4
  simp only [Value.slice.injEq] at hx
  obtain ⟨rfl, -, rfl⟩ := hx
  refine ⟨a, c, h3, hsw.1, hsw.2.1, fun i hi => ?_⟩
  obtain ⟨b, o, va, vc, rfl, hcx, hr⟩ := pair_ext h4 i hi
  exact ⟨b, o, va, vc, J, rfl, (hcx w h2.ext).1, (hcx w h2.ext).2, hJ, hr, h2.tell hq⟩
theorem qv_own (W : World) (q : Nat) (L : PrL) : QV W (isQM q L) q L := by
  intro w I R h
  obtain ⟨a, c, cells, h0⟩ := isQM_open h
  have hsw := (show Sat W w (sep (osl 34 2 a L.length c cells) _) from h0.p1).swf_of_osl
  refine ⟨a, c, h0.cell 0, hsw.1, hsw.2.1, fun i hi => ?_⟩
  obtain ⟨cv, g1, g2, g3⟩ := (show Sat W w (sep ((rPairQ.rows 2).is cells L) (sep (osl 34 2 a L.length c cells) (sep (kn I) (sep (blk q (.cells #[.slice a L.length c] 29 (0, 0))) R)))) by simpa only [sep_comm, sep_lcomm, sep_assoc] using h0).rows_get i hi
  obtain ⟨g, b, d, rfl, f0, f1, e0, e1⟩ := qm_cells h0.drop i hi
  obtain ⟨J, hJ, hr, h3⟩ := (show Sat W w (sep (rPairQ.is cv L[i]) (sep (kn I) (sep ((rPairQ.rows 2).is cells L) (sep (osl 34 2 (some ⟨g, 0, none⟩) L.length c cells) (sep (blk q (.cells #[.slice (some ⟨g, 0, none⟩) L.length c] 29 (0, 0))) R))))) by simpa only [sep_comm, sep_lcomm, sep_assoc] using g3).learn
  obtain ⟨va, vc, rfl, hrv⟩ := hr
  have e2 := g2 1 (by omega)
  rw [e1] at e2
  simp only [List.getElem?_cons_succ, List.getElem?_cons_zero, Option.some.injEq, Value.slice.injEq] at e2
  obtain ⟨rfl, -, rfl⟩ := e2
  refine ⟨g, 0, b, d, J, rfl, by rw [Nat.zero_add]; exact f0, by rw [Nat.zero_add]; exact f1, hJ, hrv, ?_⟩
  exact isQM_mk rfl (show Sat W w (sep (blk q (.cells #[.slice (some ⟨g, 0, none⟩) L.length c] 29 (0, 0))) (sep (osl 34 2 (some ⟨g, 0, none⟩) L.length c cells) (sep ((rPairQ.rows 2).is cells L) (sep (kn J) R)))) by simpa only [sep_comm, sep_lcomm, sep_assoc] using h3)
set_option maxRecDepth 100000 in
set_option maxHeartbeats 4000000 in
theorem qleaf_spec {W w : World} {A : Assn} {I : Mem} (k : Int) (v : Value) (bs : List UInt8) (h : Sat W w (sep (kn I) A)) (hv : rBytes.rel I [v] bs) (hb : bs.length ≤ 1000000) :
    Calls Tryd.prog 79 #[.agg #[.int .i64 k, v]] w fun e w' => e = .returned (.int .u64 (leafN k bs : Nat)) ∧ Sat W w' (sep (kn I) A) := by
  obtain ⟨va, vc, rfl, -⟩ := bytes_rel.1 hv
  have e5 : (⟨#[118, 97, 108, 117, 101]⟩ : ByteArray).data.toList = valueL := rfl
  have e4 : (⟨#[112, 97, 105, 114]⟩ : ByteArray).data.toList = pairL := rfl
  have HW : leafN k bs = sumN pairL [k, (bs.length : Int), wrap64 ((bytesN valueL bs : Nat) : Int)] := rfl
  obtain ⟨x, hx⟩ : ∃ x, x = w.heap.size := ⟨_, rfl⟩
  have h1 := (h.alloc (.cells #[.int .i64 k, .slice va bs.length vc] 34)).drew
  have H1 := rhbytes_spec ⟨#[118, 97, 108, 117, 101]⟩ (.slice va bs.length vc) bs h1.p1 hv (by decide) (by omega)
  rw [e5] at H1
  obtain ⟨hh, hhe⟩ : ∃ hh, hh = bytesN valueL bs := ⟨_, rfl⟩
  obtain ⟨bl, hbl⟩ : ∃ bl, bl = bs.length := ⟨_, rfl⟩
  rw [← hhe] at H1
  rw [← hbl] at H1 h1
  rw [← hhe, ← hbl] at HW
  obtain ⟨z2, hz2⟩ : ∃ z, wrap64 (hh : Int) = z := ⟨_, rfl⟩
  rw [hz2] at HW
  have hz3 : IntKind.i64.wrap (hh : Int) = z2 := by rw [← hz2, IntKind.wrap_i64, Go.RowKit.wrap64]
  have HWW := Lib.hid HW
  obtain ⟨cm, hcm⟩ : ∃ cm, cm = leafN k bs := ⟨_, rfl⟩
  rw [← hcm] at HWW ⊢
  rw [← hbl]
  obtain ⟨w1, hw1⟩ : ∃ w1, w1 = w.alloc (.cells #[.int .i64 k, .slice va bl vc] 34) := ⟨_, rfl⟩
  rw [← hx, ← hw1] at h1
  rw [← hx, ← hw1] at H1
  have H1' := Lib.hid H1
  have HX := Lib.hid (And.intro hx hw1)
  have hS0 : w1.drew.cell? ⟨x, 0, none⟩ = some (.int .i64 k) ∧ w1.drew.cell? ⟨x, 1, none⟩ = some (.slice va bl vc) := ⟨h1.cell 0, h1.cell 1⟩
  have f1 : w1.drew.cell? ⟨x, 1, none⟩ = some (.slice va bl vc) := h1.cell 1
  clear hv h hb HW hhe hcm H1 e5 hbl hx hw1 h1
  go_enter Tryd.func79, Tryd.ntmps79
  go_upto_region 1 with (fail)
  rw [← HX.out.1, ← HX.out.2]
  refine wp_region_canon rfl (fun w' => w'.cell? ⟨x, 0, none⟩ = some (.int .i64 k) ∧ w'.cell? ⟨x, 1, none⟩ = some (.slice va bl vc)) [(0, .p), (1, .s), (2, .p), (3, .s), (4, .p), (5, .p), (6, .t), (7, .e true), (8, .p), (9, .e false), (10, .e false), (11, .p)] (by kernel_rfl) ?_
  (repeat ((first | (refine C_p (v := ?_) rfl rfl (fun w' => ?_) ?_; rotate_left; (go_simp; with_reducible rfl)) | (refine C_s (v := ?_) rfl rfl hS0 (fun w' hS => ?_) ?_; rotate_left; ((try dsimp only at hS); go_simp; with_reducible rfl)) | (refine C_t (v := ?_) rfl rfl ?_ ?_; rotate_left; (go_simp; with_reducible rfl)) | (refine C_po rfl rfl ?_) | (refine C_so rfl rfl hS0 ?_) | (refine C_to rfl rfl ?_)); simp only [Act.put, List.setIfInBounds_toArray, List.set_cons_zero, List.set_cons_succ]))
  (refine C_e rfl rfl (fun K hK => ?_); go_simp)
  refine H1'.out.mono ?_
  rintro e w2 ⟨rfl, hS⟩
  have hS1 : w2.cell? ⟨x, 0, none⟩ = some (.int .i64 k) ∧ w2.cell? ⟨x, 1, none⟩ = some (.slice va bl vc) := ⟨hS.p1.cell 0, hS.p1.cell 1⟩
  clear H1' hS0 f1
  (refine hK _ _ (fun _ => hS1) ?_; clear hK K; (try simp only [Act.put, List.setIfInBounds_toArray, List.set_cons_zero, List.set_cons_succ]))
  clear hS1
  (repeat ((first | (refine C_p (v := ?_) rfl rfl (fun w' => ?_) ?_; rotate_left; (go_simp; with_reducible rfl)) | (refine C_s (v := ?_) rfl rfl hS0 (fun w' hS => ?_) ?_; rotate_left; ((try dsimp only at hS); go_simp; with_reducible rfl)) | (refine C_t (v := ?_) rfl rfl ?_ ?_; rotate_left; (go_simp; with_reducible rfl)) | (refine C_po rfl rfl ?_) | (refine C_so rfl rfl hS0 ?_) | (refine C_to rfl rfl ?_)); simp only [Act.put, List.setIfInBounds_toArray, List.set_cons_zero, List.set_cons_succ]))
  obtain ⟨J, hJ, hri, h3⟩ := litI hS [k, (bl : Int), z2] 3 (by simp [maxLen])
  obtain ⟨g, hg⟩ : ∃ g, g = w2.heap.size := ⟨_, rfl⟩
  rw [← hg] at hri
  obtain ⟨w3, hw3⟩ : ∃ w3, w3 = w2.alloc (.cells ([k, (bl : Int), z2].map iv).toArray 3) := ⟨_, rfl⟩
  rw [← hw3] at h3
  obtain ⟨a', c', e', -, hc'⟩ := ints_rel.1 hri
  simp only [Value.slice.injEq] at e'
  obtain ⟨rfl, -, rfl⟩ := e'
  have H2a := rsum_spec ⟨#[112, 97, 105, 114]⟩ (some ⟨g, 0, none⟩) 3 [k, (bl : Int), z2] h3 (by decide) (by simp) hc'
  rw [e4, ← HWW.out] at H2a
  have H2 := Lib.hid H2a
  have HG := Lib.hid (And.intro hg (And.intro hw3 hJ))
  clear H2a e4 hS hri h3 hc' hg hw3 hJ
  (refine C_e rfl rfl (fun K hK => ?_); go_simp)
  rw [← HG.out.1]
  (refine hK _ _ (fun h => by cases h) ?_; clear hK K; (try simp only [Act.put, List.setIfInBounds_toArray, List.set_cons_zero, List.set_cons_succ]))
  (repeat ((first | (refine C_p (v := ?_) rfl rfl (fun w' => ?_) ?_; rotate_left; (go_simp; with_reducible rfl)) | (refine C_s (v := ?_) rfl rfl hS0 (fun w' hS => ?_) ?_; rotate_left; ((try dsimp only at hS); go_simp; with_reducible rfl)) | (refine C_t (v := ?_) rfl rfl ?_ ?_; rotate_left; (go_simp; with_reducible rfl)) | (refine C_po rfl rfl ?_) | (refine C_so rfl rfl hS0 ?_) | (refine C_to rfl rfl ?_)); simp only [Act.put, List.setIfInBounds_toArray, List.set_cons_zero, List.set_cons_succ]))
  (refine C_e rfl rfl (fun K hK => ?_); go_simp)
  have H3 := H2.out
  rw [HG.out.2.1] at H3
  refine H3.mono ?_
  rintro e w4 ⟨rfl, h4⟩
  have H4 : Hid (Sat W w4 (sep (kn I) A)) := Lib.hid ((h4.kn_mono HG.out.2.2).p1.drop)
  clear H2 H3 h4
  (refine hK _ _ (fun h => by cases h) ?_; clear hK K; (try simp only [Act.put, List.setIfInBounds_toArray, List.set_cons_zero, List.set_cons_succ]))
  (repeat ((first | (refine C_p (v := ?_) rfl rfl (fun w' => ?_) ?_; rotate_left; (go_simp; with_reducible rfl)) | (refine C_s (v := ?_) rfl rfl hS0 (fun w' hS => ?_) ?_; rotate_left; ((try dsimp only at hS); go_simp; with_reducible rfl)) | (refine C_t (v := ?_) rfl rfl ?_ ?_; rotate_left; (go_simp; with_reducible rfl)) | (refine C_po rfl rfl ?_) | (refine C_so rfl rfl hS0 ?_) | (refine C_to rfl rfl ?_)); simp only [Act.put, List.setIfInBounds_toArray, List.set_cons_zero, List.set_cons_succ]))
  refine C_nil ?_
  go_wp2_with fail
  go_ret
  exact ⟨rfl, H4.out⟩
theorem hn_half {n : Int} {l : Nat} (_h0 : 0 ≤ n) (h1 : (n + 1) * 2 ^ (l + 1) ≤ 4096) : (2 * n + 1) * 2 ^ l ≤ 4096 ∧ (2 * n + 1 + 1) * 2 ^ l ≤ 4096 := by
  have e : (n + 1) * 2 ^ (l + 1) = (2 * n + 1 + 1) * 2 ^ l := by rw [Int.pow_succ, Int.mul_comm (2 ^ l) 2, ← Int.mul_assoc]; congr 1; omega
  have hp := pow_pos2 l
  have e2 : (2 * n + 1 + 1) * 2 ^ l = (2 * n + 1) * 2 ^ l + 2 ^ l := by rw [Int.add_mul (2 * n + 1), Int.one_mul]
  omega
/-- Hash of a block, whatever shows the pairs. -/
def QHs (W : World) (V : Assn) (q : Nat) (L : PrL) (l : Nat) : Prop := ∀ (n : Int) {w : World} {A : Assn} {I : Mem}, 0 ≤ n → (n + 1) * 2 ^ l ≤ 4096 → Sat W w (sep V (sep (kn I) A)) →
  Calls Tryd.prog 61 #[.pointer (some ⟨q, 0, none⟩), .int .i64 (n * 2 ^ l), .int .i64 (2 ^ l)] w fun e w' => e = .returned (.tuple #[.int .u64 (((hbN (lkP L) l n).getD 0 : Nat) : Int), .bool (hbN (lkP L) l n).isSome]) ∧ Sat W w' (sep V (sep (kn I) A))
set_option maxRecDepth 100000 in
set_option maxHeartbeats 8000000 in
theorem qhash_core {W : World} {V : Assn} {q : Nat} {L : PrL} (hV : QV W V q L) (ha : AscP L) (hl4 : L.length ≤ 4000) (hvl : ∀ x ∈ L, x.2.length ≤ 65536) (l : Nat) (hl : l ≤ 12) (IH : ∀ l', l = l' + 1 → QHs W V q L l') : QHs W V q L l := by
  intro n w A I hn0 hn1 h
  obtain ⟨F, hF⟩ : ∃ F, F = n * 2 ^ l := ⟨_, rfl⟩
  obtain ⟨Z, hZ⟩ : ∃ Z : Int, Z = 2 ^ l := ⟨_, rfl⟩
  have hZ1 : 1 ≤ Z := by have := pow_pos2 l; omega
  have hFZ : (n + 1) * 2 ^ l = F + Z := by rw [Int.add_mul, Int.one_mul, ← hF, ← hZ]
  have hF0 : 0 ≤ F := by rw [hF]; exact Int.mul_nonneg hn0 (by have := pow_pos2 l; omega)
  have hFZ4 : F + Z ≤ 4096 := by rw [← hFZ]; exact hn1
  have hin : ∀ k, inB l n k ↔ F ≤ k ∧ k < F + Z := fun k => by unfold inB; rw [← hF, hFZ]
  have hz1 : Z = 1 ↔ l = 0 := by
    rw [hZ]
    constructor
    · intro h
      cases l with
      | zero => rfl
      | succ l => exfalso; have h2 := pow_pos2 l; rw [Int.pow_succ] at h; omega
    · rintro rfl; rfl
  obtain ⟨hb, hhb⟩ : ∃ hb, hb = hbN (lkP L) l n := ⟨_, rfl⟩
  rw [← hF, ← hZ, ← hhb]
  obtain ⟨nL, hnL⟩ : ∃ nL, nL = L.length := ⟨_, rfl⟩
  have hnL4 : nL ≤ 4000 := by omega
  have HV := Lib.hid hV
  have HP := Lib.hid (And.intro ha (And.intro hvl (And.intro hnL (And.intro hin (And.intro hz1 (And.intro hhb (And.intro hF hZ)))))))
  have HIH := Lib.hid IH
  have HN := Lib.hid (And.intro hn0 (And.intro hn1 hl))
  have H := Lib.hid h
  clear hV ha hl4 hvl hl IH hn0 hn1 h hF hZ hFZ hin hz1 hhb hnL
  go_enter Tryd.func61, Tryd.ntmps61
  go_wp2_with fail
  go_loopw [8, 9] (fun sv iv wr => ∃ (i : Nat) (s : Bool), i ≤ nL ∧ sv = .bool s ∧ iv = .int .i64 (i : Nat) ∧ Hid (s = true ↔ ∃ (j : Nat) (hj : j < L.length), j < i ∧ inB l n L[j].1) ∧ Hid (l = 0 → s = false) ∧ Hid (Sat W wr (sep V (sep (kn I) A)))) (fun _ iv _ => nL - (intOf iv).toNat)
  case atStart => exact ⟨0, false, Nat.zero_le _, rfl, rfl, Lib.hid ⟨fun h => (by cases h), fun ⟨j, _, h, _⟩ => (by omega)⟩, Lib.hid fun _ => rfl, H⟩
  case round =>
    clear H
    obtain ⟨i, s, hi, rfl, rfl, HSi, HS0, HS⟩ := hrel
    obtain ⟨a, c, c0, hac, hcm, hpr⟩ := HV.out _ _ _ HS.out
    rw [← HP.out.2.2.1] at c0 hac
    by_cases hlt : i < nL
    · have g1 : (i : Int) < (nL : Int) := by omega
      have hiL : i < L.length := by rw [← HP.out.2.2.1]; exact hlt
      obtain ⟨b, o, va, vc, J, rfl, f0, f1, hJ, hr, hs⟩ := hpr i hiL
      have hvl := HP.out.2.1 _ (List.getElem_mem hiL)
      have hlk := lkP_get HP.out.1 i hiL
      have hink := HP.out.2.2.2.1 L[i].1
      have hnext : ∀ s' : Bool, (s' = true ↔ s = true ∨ inB l n L[i].1) → Hid (s' = true ↔ ∃ (j : Nat) (hj : j < L.length), j < i + 1 ∧ inB l n L[j].1) := fun s' hs' => Lib.hid (by
        rw [hs', HSi.out]
        constructor
        · rintro (⟨j, hj, h1, h2⟩ | h)
          · exact ⟨j, hj, by omega, h2⟩
          · exact ⟨i, hiL, by omega, h⟩
        · rintro ⟨j, hj, h1, h2⟩
          by_cases e : j = i
          · subst e; exact .inr h2
          · exact .inl ⟨j, hj, by omega, h2⟩)
      obtain ⟨x, hx⟩ : ∃ z, z = L[i] := ⟨_, rfl⟩
      rw [← hx] at f0 f1 hr hvl hlk hink hnext
      obtain ⟨k, hk⟩ : ∃ z, z = x.1 := ⟨_, rfl⟩
      obtain ⟨vl, hvl2⟩ : ∃ z, z = x.2.length := ⟨_, rfl⟩
      rw [← hk] at f0 hlk hink hnext
      rw [← hvl2] at f1 hr
      have HNX := Lib.hid hnext
      have HK := Lib.hid (And.intro hlk (And.intro hink (And.intro hvl hvl2)))
      have HR := Lib.hid (And.intro hJ (And.intro hr hs))
      have hcI : (c : Int) ≤ 9223372036854775807 := by unfold maxLen at hcm; omega
      clear hpr hiL hvl hlk hink hnext hx hk hvl2 hJ hr hs hcm
      by_cases h1 : F ≤ k
      · by_cases h2 : k < F + Z
        · have hin : inB l n k := HK.out.2.1.2 ⟨h1, h2⟩
          by_cases hz : Z = 1
          · have hl0 := HP.out.2.2.2.2.1.1 hz
            have hres : hb = some (leafN k x.2) := by
              have e1 := HP.out.2.2.2.2.2.1
              have hnk : n = k := by
                have := (inB_zero n k).1 (by rw [← hl0]; exact hin)
                exact this.symm
              rw [e1, hl0, hbN, hnk, HK.out.1]
              rfl
            have hle := qleaf_spec k (.slice va vl vc) x.2 (show Sat W wr (sep (kn J) (sep V A)) by have := HR.out.2.2; simpa only [sep_comm, sep_lcomm, sep_assoc] using this) HR.out.2.1 (by have := HK.out.2.2.1; omega)
            obtain ⟨lf, hlf⟩ : ∃ z, z = leafN k x.2 := ⟨_, rfl⟩
            rw [← hlf] at hle hres
            have HLE := Lib.hid hle
            have HRS := Lib.hid hres
            subst hz
            clear hle hres hlf hl0 hin HS
            go_wp2_with fail
            refine HLE.out.mono ?_
            rintro e w2 ⟨rfl, h3⟩
            have H3 : Hid (Sat W w2 (sep V (sep (kn I) A))) := Lib.hid (by
              have := h3.kn_mono HR.out.1
              simpa only [sep_comm, sep_lcomm, sep_assoc] using this)
            clear HLE h3
            go_wp2_with fail
            go_ret2
            rw [HRS.out]
            exact ⟨rfl, H3.out⟩
          · have hl0 : Hid (l = 0 → true = false) := Lib.hid fun h => absurd (HP.out.2.2.2.2.1.2 h) hz
            have hz' : (Z == 1) = false := by simpa using hz
            have HN2 := HNX.out true ⟨fun _ => .inr hin, fun _ => rfl⟩
            clear hz hin
            go_wp2_with fail
            go_roundw
            case rel => exact ⟨i + 1, true, by omega, rfl, by go_num, HN2, hl0, HS⟩
            case measure => simp only [intOf]; omega
        · have HN2 := HNX.out s ⟨fun h => .inl h, fun h => h.elim id fun h => absurd (HK.out.2.1.1 h).2 h2⟩
          go_wp2_with fail
          go_roundw
          case rel => exact ⟨i + 1, s, by omega, rfl, by go_num, HN2, HS0, HS⟩
          case measure => simp only [intOf]; omega
      · have HN2 := HNX.out s ⟨fun h => .inl h, fun h => h.elim id fun h => absurd (HK.out.2.1.1 h).1 h1⟩
        go_wp2_with fail
        go_roundw
        case rel => exact ⟨i + 1, s, by omega, rfl, by go_num, HN2, HS0, HS⟩
        case measure => simp only [intOf]; omega
    · have g1 : ¬ (i : Int) < (nL : Int) := by omega
      obtain rfl : i = nL := by omega
      clear hpr hac hcm hlt hi
      cases s with
      | false =>
        have hres : hb = none := by
          rw [HP.out.2.2.2.2.2.1]
          refine (hbN_none l n).2 fun k hk => lkP_mem fun j hj e => ?_
          have := HSi.out.2 ⟨j, hj, by rw [HP.out.2.2.1]; exact hj, by rw [e]; exact hk⟩
          cases this
        have HRS := Lib.hid hres
        clear hres
        go_wp2_with fail
        go_ret2
        rw [HRS.out]
        exact ⟨rfl, HS.out⟩
      | true =>
        have hl0 : l ≠ 0 := fun h => by have := HS0.out h; cases this
        obtain ⟨l', rfl⟩ : ∃ l', l = l' + 1 := ⟨l - 1, by omega⟩
        obtain ⟨Y, hY⟩ : ∃ Y : Int, Y = 2 ^ l' := ⟨_, rfl⟩
        have hZY : Z = 2 * Y := by rw [HP.out.2.2.2.2.2.2.2, hY, Int.pow_succ]; omega
        have hq : Z.tdiv 2 = Y := by rw [Int.tdiv_eq_ediv_of_nonneg (by omega)]; omega
        have hf1 : F = 2 * n * Y := by rw [HP.out.2.2.2.2.2.2.1, hY, Int.pow_succ, Int.mul_comm (2 ^ l') 2, ← Int.mul_assoc, Int.mul_comm n 2]
        have hf2 : F + Y = (2 * n + 1) * Y := by rw [Int.add_mul, Int.one_mul, ← hf1]
        have hs1 := hn_half HN.out.1 HN.out.2.1
        have hH1 := (HIH.out l' rfl) (2 * n) (by have := HN.out.1; omega) hs1.1 HS.out
        have hH2 := fun w' (h : Sat W w' (sep V (sep (kn I) A))) => (HIH.out l' rfl) (2 * n + 1) (by have := HN.out.1; omega) hs1.2 h
        rw [← hY, ← hf1] at hH1
        rw [← hY, ← hf2] at hH2
        have hres : hb = joinN (hbN (lkP L) l' (2 * n)) (hbN (lkP L) l' (2 * n + 1)) := by rw [HP.out.2.2.2.2.2.1, hbN]
        have hsome : hb ≠ none := by
          rw [HP.out.2.2.2.2.2.1]
          intro hh
          obtain ⟨j, hj, -, hk⟩ := HSi.out.1 rfl
          have := (hbN_none (l' + 1) n).1 hh _ hk
          rw [lkP_get HP.out.1 j hj] at this
          cases this
        obtain ⟨ha, hha⟩ : ∃ z, z = hbN (lkP L) l' (2 * n) := ⟨_, rfl⟩
        obtain ⟨hc, hhc⟩ : ∃ z, z = hbN (lkP L) l' (2 * n + 1) := ⟨_, rfl⟩
        rw [← hha] at hH1 hres
        rw [← hhc] at hH2 hres
        have hlt1 : ha.getD 0 < 18446744073709551616 := by
          cases hh : ha with
          | none => simp
          | some y => exact hbN_lt _ _ _ y (by rw [← hha]; exact hh)
        have hlt2 : hc.getD 0 < 18446744073709551616 := by
          cases hh : hc with
          | none => simp
          | some y => exact hbN_lt _ _ _ y (by rw [← hhc]; exact hh)
        have hres2 : hb = some (nodeN (ha.getD 0) (hc.getD 0)) := by
          rw [hres] at hsome ⊢
          refine jn_some ?_
          cases ha <;> cases hc <;> simp [joinN] at *
        obtain ⟨u1, hu1⟩ : ∃ z, z = ha.getD 0 := ⟨_, rfl⟩
        obtain ⟨u2, hu2⟩ : ∃ z, z = hc.getD 0 := ⟨_, rfl⟩
        rw [← hu1] at hH1 hlt1
        rw [← hu2] at hH2 hlt2
        rw [← hu1, ← hu2] at hres2
        have hnode : nodeN u1 u2 = sumN blockL [wrap64 (u1 : Int), wrap64 (u2 : Int)] := rfl
        obtain ⟨nd, hnd⟩ : ∃ z, z = nodeN u1 u2 := ⟨_, rfl⟩
        rw [← hnd] at hnode hres2
        obtain ⟨z1, hz1⟩ : ∃ z, wrap64 (u1 : Int) = z := ⟨_, rfl⟩
        obtain ⟨z2, hz2⟩ : ∃ z, wrap64 (u2 : Int) = z := ⟨_, rfl⟩
        rw [hz1, hz2] at hnode
        have HH1 := Lib.hid hH1
        have HH2 := Lib.hid hH2
        have HRS := Lib.hid (And.intro hnode hres2)
        have hYb : 0 ≤ Y ∧ Y ≤ 2048 := by omega
        clear hl0 hY hZY hf1 hf2 hs1 hH1 hH2 hres hsome hha hhc hlt1 hlt2 hres2 hu1 hu2 hnode hnd HS
        go_wp2_with fail
        refine HH1.out.mono ?_
        rintro e w2 ⟨rfl, h2⟩
        have HB := Lib.hid (HH2.out w2 h2)
        clear HH1 HH2 h2 c0
        go_wp2_with fail
        refine HB.out.mono ?_
        rintro e w3 ⟨rfl, h3⟩
        obtain ⟨J, hJ, hri, h4⟩ := litI (show Sat W w3 (sep (kn I) (sep V A)) by simpa only [sep_comm, sep_lcomm, sep_assoc] using h3) [z1, z2] 3 (by simp [maxLen])
        obtain ⟨a', c', e', -, hc'⟩ := ints_rel.1 hri
        simp only [Value.slice.injEq] at e'
        obtain ⟨rfl, -, rfl⟩ := e'
        have e4 : (⟨#[98, 108, 111, 99, 107]⟩ : ByteArray).data.toList = blockL := rfl
        have H2a := rsum_spec ⟨#[98, 108, 111, 99, 107]⟩ (some ⟨w3.heap.size, 0, none⟩) 2 [z1, z2] h4 (by decide) (by simp) hc'
        rw [e4, ← HRS.out.1] at H2a
        have H2 := Lib.hid H2a
        have HJ := Lib.hid hJ
        clear HB h3 h4 hJ hri hc' e4 H2a
        go_wp2_with fail
        refine H2.out.mono ?_
        rintro e w4 ⟨rfl, h5⟩
        have H5 : Hid (Sat W w4 (sep V (sep (kn I) A))) := Lib.hid (by
          have := h5.kn_mono HJ.out
          simpa only [sep_comm, sep_lcomm, sep_assoc] using this)
        clear H2 h5
        go_wp2_with fail
        go_ret2
        rw [HRS.out.2]
        exact ⟨rfl, H5.out⟩
theorem qhash_all {W : World} {V : Assn} {q : Nat} {L : PrL} (hV : QV W V q L) (ha : AscP L) (hl4 : L.length ≤ 4000) (hvl : ∀ x ∈ L, x.2.length ≤ 65536) : ∀ l, l ≤ 12 → QHs W V q L l
  | 0, hl => qhash_core hV ha hl4 hvl 0 hl fun l' h => by omega
  | l + 1, hl => qhash_core hV ha hl4 hvl (l + 1) hl fun l' h => by
    obtain rfl : l = l' := by omega
    exact qhash_all hV ha hl4 hvl l (by omega)
theorem qroot_spec {W w : World} {A : Assn} {I : Mem} {V : Assn} {q : Nat} {L : PrL} (hV : QV W V q L) (ha : AscP L) (hl4 : L.length ≤ 4000) (hvl : ∀ x ∈ L, x.2.length ≤ 65536) (h : Sat W w (sep V (sep (kn I) A))) :
    Calls Tryd.prog 38 #[.pointer (some ⟨q, 0, none⟩)] w fun e w' => e = .returned (.int .u64 (rootN (lkP L) : Nat)) ∧ Sat W w' (sep V (sep (kn I) A)) := by
  have hh := qhash_all hV ha hl4 hvl 12 (by omega) 0 (by omega) (by decide) h
  rw [show (0 : Int) * 2 ^ 12 = 0 by decide, show (2 : Int) ^ 12 = 4096 by decide] at hh
  have HH := Lib.hid hh
  clear h hh
  go_enter Tryd.func38, Tryd.ntmps38
  go_wp2_with fail
  refine HH.out.mono ?_
  rintro e w2 ⟨rfl, h2⟩
  go_wp2_with fail
  go_ret
  exact ⟨rfl, h2⟩
end Go.Proofs.YtcmjbjlliehdiaaDoor
