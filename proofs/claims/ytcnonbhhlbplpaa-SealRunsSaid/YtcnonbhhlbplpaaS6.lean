/- Package seal: Sealed (slices.DeleteFunc, IndexFunc). -/
import Derived.Test.YtcnonbhhlbplpaaS5
namespace Go.Proofs.Ytcnonbhhlbplpaa
open Go.RowKit PA
theorem entField2 (a : Option Addr) (n c : Nat) (s : Int) (o : Bool) (w : World) : (Instr.field 65 (.agg #[.slice a n c, .int .u64 s, .bool o]) 2).run Try.prog w = .ok (.bool o) w := by kernel_rfl
def clos (B p : Nat) : Assn := blk B (.cells #[.pointer (some ⟨p, 0, none⟩)] 23 (0, 0))
theorem look_op {I : Mem} {f : Int → Option Value} {M : Int → Option Ent} (h : SOK I f M) (k : Int) : ∃ a n c s, (f k).getD (.agg #[.slice none 0 0, .int .u64 0, .bool false]) = .agg #[.slice a n c, .int .u64 ((s : Nat) : Int), .bool (opE M k)] := by
  cases hm : M k with
  | none => rw [h.1 k hm]; exact ⟨none, 0, 0, 0, by unfold opE; rw [hm]; rfl⟩
  | some e => obtain ⟨_, a, c, e1, _⟩ := h.2 k e hm; rw [e1]; exact ⟨a, _, c, e.s, by unfold opE; rw [hm]; rfl⟩
theorem sealed1_spec {W w : World} {A : Assn} (B p : Nat) (M : Int → Option Ent) (n : Nat) (k : Int) (h : Sat W w (sep (clos B p) (sep (isBox p M n) A))) :
    Calls Try.prog 38 #[.int .i64 k, .pointer (some ⟨B, 0, none⟩)] w fun e w' => e = .returned (.bool (opE M k)) ∧ w = w' := by
  have c1 : w.cell? ⟨B, 0, none⟩ = some (.pointer (some ⟨p, 0, none⟩)) := Sat.cell h 0
  obtain ⟨hn, b, f, h0⟩ := isBox_open h.p1
  have c0 : w.cell? ⟨p, 0, none⟩ = some (.map (some b)) := h0.cell 0
  have hlk := run_lookup_bmap (P := Try.prog) (T := 61) Try.underlying61 Try.underlying3 zeroEntry h0.p1 k false
  obtain ⟨a', n', c', s', e⟩ := look_op h0.p2.pers_heap k
  rw [e] at hlk
  obtain ⟨o, ho⟩ : ∃ o, o = opE M k := ⟨_, rfl⟩
  rw [← ho] at hlk ⊢
  have hlk2 : (Instr.lookup 61 (.map (some b)) (.int .i64 k) false).run Try.prog w = .ok (.agg #[.slice a' n' c', .int .u64 (s' : Nat), .bool o]) w := hlk
  have hef := entField2
  clear h h0 hlk e ho
  go_enter Try.func38, Try.ntmps38
  go_wp2_with fail
  go_ret
  exact ⟨rfl, rfl⟩
def FirstOp (M : Int → Option Ent) (xs : List Int) (r : Int) : Prop := (r = -1 ∧ ∀ x ∈ xs, opE M x = false) ∨ ∃ i0 : Nat, ∃ h : i0 < xs.length, r = i0 ∧ (∀ x ∈ xs.take i0, opE M x = false) ∧ opE M xs[i0] = true
set_option maxRecDepth 100000 in
set_option maxHeartbeats 4000000 in
theorem indexI_spec {W w : World} {A : Assn} (B p : Nat) (M : Int → Option Ent) (n : Nat) (a : Option Addr) (c : Nat) (xs : List Int) (hl : xs.length ≤ 4096) (h : Sat W w (sep (osl 3 1 a xs.length c (xs.map iv)) (sep (clos B p) (sep (isBox p M n) A)))) :
    Calls Try.prog 51 #[.slice a xs.length c, .func (.func 38) #[] #[.pointer (some ⟨B, 0, none⟩)]] w fun e w' => ∃ r, e = .returned (.int .i64 r) ∧ FirstOp M xs r ∧ w = w' := by
  obtain ⟨m, hm⟩ : ∃ m, m = xs.length := ⟨_, rfl⟩
  rw [← hm] at hl ⊢
  rw [← hm] at h
  have HM := Lib.hid hm
  have H := Lib.hid h
  have hmI : (m : Int) ≤ 4096 := by omega
  clear hm h
  go_enter Try.func51, Try.ntmps51
  go_wp2_with fail
  go_loopw [8] (fun kv wr => ∃ k : Nat, k ≤ m ∧ kv = .int .i64 k ∧ (∀ x ∈ xs.take k, opE M x = false) ∧ wr = w) (fun kv _ => m - (intOf kv).toNat)
  case atStart => exact ⟨0, Nat.zero_le _, rfl, by simp, rfl⟩
  case round =>
    obtain ⟨k, hk, rfl, hno, rfl⟩ := hrel
    have HNO := Lib.hid hno
    clear hno
    by_cases hkm : k < m
    · have hkl : k < xs.length := by rw [← HM.out]; exact hkm
      obtain ⟨x, hx⟩ : ∃ x, x = xs[k] := ⟨_, rfl⟩
      obtain ⟨g, rfl, hcc⟩ := H.out.osl_at (fun e => by have := congrArg List.length e; simp at this; rw [this] at hkl; simp at hkl)
      have hc := hcc k (iv x) (by rw [List.getElem?_map, List.getElem?_eq_getElem hkl, hx]; rfl)
      unfold iv at hc
      have HX := Lib.hid hx
      have hs1 := sealed1_spec B p M n x (A := sep (osl 3 1 (some ⟨g, 0, none⟩) m c (xs.map iv)) A) (by simpa only [sep_comm, sep_lcomm, sep_assoc] using H.out)
      obtain ⟨o, ho⟩ : ∃ o, o = opE M x := ⟨_, rfl⟩
      rw [← ho] at hs1
      have HO := Lib.hid ho
      have HS1 := Lib.hid hs1
      have hkI : (k : Int) < m := by omega
      clear hcc hx hs1 ho
      cases o with
      | true =>
        go_wp2_with fail
        refine HS1.out.mono ?_
        rintro e w3 ⟨rfl, rfl⟩
        go_wp2_with fail
        go_ret
        exact ⟨k, rfl, .inr ⟨k, hkl, rfl, HNO.out, by rw [← HX.out, ← HO.out]⟩, rfl⟩
      | false =>
        go_wp2_with fail
        refine HS1.out.mono ?_
        rintro e w3 ⟨rfl, rfl⟩
        go_wp2_with fail
        go_roundw
        case rel =>
          refine ⟨k + 1, by omega, by go_num, ?_, trivial⟩
          rw [List.take_succ_eq_append_getElem hkl]
          intro y hy
          rcases List.mem_append.1 hy with hy | hy
          · exact HNO.out y hy
          · rw [List.mem_singleton.1 hy, ← HX.out, ← HO.out]
        case measure => simp [intOf]; omega
    · obtain rfl : k = m := by omega
      have hkI : ¬ (k : Int) < k := by omega
      go_wp2_with fail
      go_ret
      refine ⟨-1, rfl, .inl ⟨rfl, ?_⟩, by first | rfl | trivial⟩
      have := HNO.out
      rwa [List.take_of_length_le (by rw [← HM.out]; exact Nat.le_refl _)] at this
theorem zeroI (w : World) : (zeroValue 3).run Try.prog w = .ok (.int .i64 0) w := by kernel_rfl
set_option maxRecDepth 100000 in
set_option maxHeartbeats 8000000 in
theorem deleteI_spec {W w : World} {A : Assn} (B p : Nat) (M : Int → Option Ent) (n : Nat) (a : Option Addr) (c : Nat) (xs : List Int) (hl : xs.length ≤ 4096) (h : Sat W w (sep (osl 3 1 a xs.length c (xs.map iv)) (sep (clos B p) (sep (isBox p M n) A)))) :
    Calls Try.prog 37 #[.slice a xs.length c, .func (.func 38) #[] #[.pointer (some ⟨B, 0, none⟩)]] w fun e w' => ∃ l, e = .returned (.slice a l c) ∧ l = (xs.filter fun k => !opE M k).length ∧ Sat W w' (sep (osl 3 1 a l c ((xs.filter fun k => !opE M k).map iv)) (sep (isBox p M n) A)) := by
  have hix := indexI_spec B p M n a c xs hl h
  obtain ⟨m, hm⟩ : ∃ m, m = xs.length := ⟨_, rfl⟩
  rw [← hm] at hl hix ⊢
  rw [← hm] at h
  have HM := Lib.hid hm
  have HIX := Lib.hid hix
  have hmI : (m : Int) ≤ 4096 := by omega
  have H := Lib.hid h
  clear hix hm h
  go_enter Try.func37, Try.ntmps37
  go_wp2_with fail
  refine HIX.out.mono ?_
  rintro e w1 ⟨r, rfl, hr, rfl⟩
  clear HIX
  rcases hr with ⟨rfl, hno⟩ | ⟨i0, hi0, rfl, hno, hyes⟩
  · have HNO := Lib.hid hno
    clear hno
    go_wp2_with fail
    go_ret
    have e : (xs.filter fun k => !opE M k) = xs := List.filter_eq_self.2 fun x hx => by rw [HNO.out x hx]; rfl
    refine ⟨m, rfl, by rw [e]; exact HM.out, ?_⟩
    rw [e]
    have := H.out.p1.drop
    exact this
  · rcases H.out.osl_cases with ⟨-, h1, -⟩ | ⟨g, cur, rfl, h1, h2, h3, h4, h5, h6⟩
    · exact absurd hi0 (by have := HM.out; omega)
    have him : i0 < m := by rw [HM.out]; exact hi0
    have e0 : (xs.take (i0 + 1)).filter (fun k => !opE M k) = xs.take i0 := by
      rw [List.take_succ_eq_append_getElem hi0, List.filter_append, List.filter_eq_self.2 (fun x hx => by rw [hno x hx]; rfl)]
      simp [hyes]
    have g1 : ((i0 : Int) == -1) = false := by simp
    have hcm : (c : Int) ≤ 9223372036854775807 := by have := h3; unfold maxLen at this; omega
    have hcell : ∀ t, t < m → cur[t]? = (xs.map iv)[t]? := fun t ht => by
      rw [← h5, Nat.mul_one, List.getElem?_take_of_lt ht, Array.getElem?_toList]
    have hpre : cur.toList.take i0 = (xs.take i0).map iv := by
      have := congrArg (List.take i0) h5
      rw [Nat.mul_one, List.take_take, Nat.min_eq_left (by omega)] at this
      rw [this, List.map_take]
    have HPRE := Lib.hid hpre
    have HE0 := Lib.hid e0
    have HCELL := Lib.hid hcell
    have h4' : cur.size = c := by omega
    have h6' := Lib.hid h6
    have H4 := Lib.hid h4'
    have H3 := Lib.hid h3
    clear H hno hyes h1 h5 h6 h4 h4' hpre e0 hcell h3
    go_wp2_with fail
    go_loopw [5, 6] (fun iv' jv wr => ∃ (i j : Nat) (cu : Array Value), iv' = .int .i64 i ∧ jv = .int .i64 j ∧ i < j ∧ j ≤ m ∧ cu.size = c ∧ i = ((xs.take j).filter fun k => !opE M k).length ∧ cu.toList.take i = ((xs.take j).filter fun k => !opE M k).map iv ∧
      (∀ t, j ≤ t → t < m → cu[t]? = (xs.map iv)[t]?) ∧ Sat W wr (sep (blk g (.cells cu 3 (0, 0))) (sep (clos B p) (sep (isBox p M n) A)))) (fun _ jv _ => m - (intOf jv).toNat)
    case atStart =>
      refine ⟨i0, i0 + 1, cur, rfl, by go_num, by omega, by omega, H4.out, ?_, ?_, fun t _ ht => HCELL.out t ht, h6'.out⟩
      · rw [HE0.out, List.length_take]; omega
      · rw [HE0.out, HPRE.out]
    case round =>
      clear h6' H4 HPRE HE0 HCELL
      obtain ⟨i, j, cu, rfl, rfl, hij, hj, hcs, hil, hpre, hrest, hS⟩ := hrel
      by_cases hjm : j < m
      · have hjl : j < xs.length := by rw [← HM.out]; exact hjm
        obtain ⟨x, hx⟩ : ∃ x, x = xs[j] := ⟨_, rfl⟩
        have hcj : cu[j]? = some (iv x) := by rw [hrest j (Nat.le_refl _) hjm, List.getElem?_map, List.getElem?_eq_getElem hjl, hx]; rfl
        have hc : wr.cell? ⟨g, j, none⟩ = some (.int .i64 x) := (hS.cell j).trans hcj
        have hs1 := sealed1_spec B p M n x (A := sep (blk g (.cells cu 3 (0, 0))) A) (by simpa only [sep_comm, sep_lcomm, sep_assoc] using hS)
        obtain ⟨o, ho⟩ : ∃ o, o = opE M x := ⟨_, rfl⟩
        rw [← ho] at hs1
        have hfr := hS.unfrozen i
        have hci : wr.cell? ⟨g, i, none⟩ = cu[i]? := hS.cell i
        have hig : i < cu.size := by omega
        have hci2 : wr.cell? ⟨g, i, none⟩ = some cu[i] := by rw [hci, Array.getElem?_eq_getElem hig]
        have h7 := hS.setCell i (.int .i64 x)
        have ex : (xs.take (j + 1)).filter (fun k => !opE M k) = (xs.take j).filter (fun k => !opE M k) ++ (if o then [] else [x]) := by
          rw [List.take_succ_eq_append_getElem hjl, List.filter_append, ← hx]
          cases o <;> simp [← ho]
        have HPRE := Lib.hid hpre
        have HREST := Lib.hid hrest
        have HIL := Lib.hid hil
        have HEX := Lib.hid ex
        have HS1 := Lib.hid hs1
        have H7 := Lib.hid h7
        have HS := Lib.hid hS
        have HCS := Lib.hid hcs
        have hjI : (j : Int) < m := by omega
        have hiI : (i : Int) < m := by omega
        clear hpre hrest hil ex hs1 h7 hS hcs ho hx hcj hci
        cases o with
        | true =>
          clear hfr hci2 H7
          go_wp2_with fail
          refine HS1.out.mono ?_
          rintro e w3 ⟨rfl, rfl⟩
          go_wp2_with fail
          go_roundw
          case rel =>
            refine ⟨i, j + 1, cu, rfl, by go_num, by omega, by omega, HCS.out, ?_, ?_, fun t h1 h2 => HREST.out t (by omega) h2, HS.out⟩
            · rw [HEX.out]; simpa using HIL.out
            · rw [HEX.out]; simpa using HPRE.out
          case measure => simp [intOf]; omega
        | false =>
          go_wp2_with fail
          refine HS1.out.mono ?_
          rintro e w3 ⟨rfl, rfl⟩
          go_wp2_with fail
          go_roundw
          case rel =>
            refine ⟨i + 1, j + 1, cu.setIfInBounds i (.int .i64 x), by go_num, by go_num, by omega, by omega, by rw [Array.size_setIfInBounds]; exact HCS.out, ?_, ?_, fun t h1 h2 => ?_, H7.out⟩
            · rw [HEX.out]; simp; exact HIL.out
            · rw [HEX.out]
              simp only [Bool.false_eq_true, if_false, List.map_append, List.map_cons, List.map_nil, ← HPRE.out]
              rw [Array.toList_setIfInBounds, List.take_succ_eq_append_getElem (by rw [List.length_set, Array.length_toList]; exact hig), List.take_set_of_le (Nat.le_refl _)]
              simp [iv]
            · rw [Array.getElem?_setIfInBounds_ne (by omega)]; exact HREST.out t (by omega) h2
          case measure => simp [intOf]; omega
      · obtain rfl : j = m := by omega
        have hjI : ¬ (j : Int) < j := by omega
        have exs : xs.take j = xs := List.take_of_length_le (by rw [← HM.out]; exact Nat.le_refl _)
        rw [exs] at hil hpre
        have hic : i < c := by omega
        have hclr := fun ty => run_clear_row (P := Try.prog) 32 ty 3 (.int .i64 0) Try.underlying32 zeroI rfl rfl hS i (j - i) (c - i) (by omega) (by omega)
        have hS2 := hS.setRow (cu.toList.take i ++ List.replicate (j - i) (Value.int .i64 0) ++ cu.toList.drop (i + (j - i))).toArray
        have k3 : (cu.toList.take i ++ List.replicate (j - i) (Value.int .i64 0) ++ cu.toList.drop (i + (j - i))).toArray.size = c := by simp [hcs]; omega
        have k4 : (cu.toList.take i ++ List.replicate (j - i) (Value.int .i64 0) ++ cu.toList.drop (i + (j - i))).toArray.toList.take i = (xs.filter fun k => !opE M k).map iv := by
          have hle : i ≤ (cu.toList.take i).length := by rw [List.length_take, Array.length_toList, hcs]; omega
          rw [← hpre]; show List.take i (cu.toList.take i ++ List.replicate (j - i) _ ++ cu.toList.drop (i + (j - i))) = _; rw [List.append_assoc, List.take_append_of_le_length hle, List.take_take, Nat.min_self]
        generalize (cu.toList.take i ++ List.replicate (j - i) (Value.int .i64 0) ++ cu.toList.drop (i + (j - i))).toArray = cur2 at *
        have K3 := Lib.hid k3
        have K4 := Lib.hid k4
        have HS2 := Lib.hid hS2
        have HIL := Lib.hid hil
        clear k3 k4 hS2 hil hpre hrest hS hcs exs
        go_wp2_with fail
        go_ret
        refine ⟨i, rfl, HIL.out, ?_⟩
        have := HS2.out.osl_mk i c 1 ((xs.filter fun k => !opE M k).map iv) (by rw [List.length_map, ← HIL.out, Nat.mul_one]) (by omega) H3.out (by rw [K3.out, Nat.mul_one]) (by rw [Nat.mul_one]; exact K4.out)
        exact this.p1.drop
set_option maxHeartbeats 1000000 in
theorem ssealed_spec {W w : World} {A : Assn} (p : Nat) (M : Int → Option Ent) (n : Nat) (h : Sat W w (sep (isBox p M n) A)) :
    Calls Try.prog 13 #[.pointer (some ⟨p, 0, none⟩)] w fun e w' => ∃ a c ks, e = .returned (.slice a (ks.filter fun k => !opE M k).length c) ∧ MKeys M ks ∧ ks.length ≤ n ∧
      Sat W w' (sep (osl 3 1 a (ks.filter fun k => !opE M k).length c ((ks.filter fun k => !opE M k).map iv)) (sep (isBox p M n) A)) := by
  have h1 := h.alloc (.cells #[.pointer (some ⟨p, 0, none⟩)] 23)
  obtain ⟨B, hB⟩ : ∃ B, B = w.heap.size := ⟨_, rfl⟩
  rw [← hB] at h1
  have h2 : Sat W _ (sep (clos B p) (sep (isBox p M n) A)) := h1
  obtain ⟨hn, J, b, f, hsk, h0⟩ := isBox_know h2.p1
  have c0 : (w.alloc (.cells #[.pointer (some ⟨p, 0, none⟩)] 23)).cell? ⟨p, 0, none⟩ = some (.map (some b)) := h0.cell 0
  have H0 := Lib.hid (ssorted_spec b f n (by omega) h0.p1)
  have HN := Lib.hid hn
  have HSK := Lib.hid hsk
  have HB := Lib.hid hB
  clear h h0 h1 h2 hsk hn hB
  go_enter Try.func13, Try.ntmps13
  go_wp2_with fail
  refine H0.out.mono ?_
  rintro e w1 ⟨a, c, ks, rfl, hk, hl, h3⟩
  have HMK := Lib.hid (mkeys_of HSK.out hk)
  have HL := Lib.hid hl
  have h4 := isBox_unknow HN.out HSK.out (show Sat W w1 (sep (blk p (.cells #[.map (some b)] 63 (0, 0))) (sep (bmap b f n) (sep (kn J) (sep (osl 3 1 a ks.length c (ks.map iv)) (sep (clos B p) A))))) by
    simpa only [sep_comm, sep_lcomm, sep_assoc] using h3)
  have hd := deleteI_spec B p M n a c ks (by have := HN.out; omega) (show Sat W w1 (sep (osl 3 1 a ks.length c (ks.map iv)) (sep (clos B p) (sep (isBox p M n) A))) by simpa only [sep_comm, sep_lcomm, sep_assoc] using h4)
  have HD := Lib.hid hd
  clear H0 c0 hk hl h3 h4 hd
  rw [← HB.out]
  go_wp2_with fail
  refine HD.out.mono ?_
  rintro e w2 ⟨l, rfl, rfl, h5⟩
  have H5 := Lib.hid h5
  clear h5
  go_wp2_with fail
  go_ret
  exact ⟨a, c, ks, rfl, HMK.out, HL.out, H5.out⟩
end Go.Proofs.Ytcnonbhhlbplpaa
