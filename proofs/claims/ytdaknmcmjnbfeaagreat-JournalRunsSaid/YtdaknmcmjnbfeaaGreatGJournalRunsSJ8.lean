/- SameLists; Records. -/
import Derived.Test.YtdaknmcmjnbfeaaGreatGJournalRuns42
import Derived.Test.YtdaknmcmjnbfeaaGreatGJournalRuns7
namespace Go.Proofs.YtdaknmcmjnbfeaaGreat
open Go.RowKit PA
set_option maxHeartbeats 1000000 in
theorem sameLists_spec {W w : World} {A : Assn} (v1 v2 : Value) (xs : List (List UInt8)) (h : Sat W w (sep ((rBytes.slice 1).is [v1] xs) (sep ((rBytes.slice 1).is [v2] xs) A))) :
    Calls Tryz.prog 13 #[v1, v2] w fun e w' => e = .returned (.bool true) ∧ Sat W w' A := by
  obtain ⟨a1, c1, -, rfl, hw1, -, -⟩ := h.slice_open
  obtain ⟨a2, c2, -, rfl, -, -, -⟩ := h.p1.slice_open
  obtain ⟨n, hn⟩ : ∃ n, n = xs.length := ⟨_, rfl⟩
  have hn2 : n ≤ 9223372036854775807 := by have := hw1.1; have := hw1.2.1; unfold maxLen at this; omega
  rw [← hn] at h ⊢
  have f1 : ((n : Int) != (n : Int)) = false := by simp
  have HN := Lib.hid hn.symm
  clear hn hw1
  go_enter Tryz.func13, Tryz.ntmps13
  go_wp2
  go_loopw [5] (fun i wr => ∃ k : Nat, k ≤ n ∧ i = .int .i64 k ∧ Sat W wr (sep ((rBytes.slice 1).is [.slice a1 n c1] xs) (sep ((rBytes.slice 1).is [.slice a2 n c2] xs) A))) (fun i _ => n - (intOf i).toNat)
  case atStart => exact ⟨0, by omega, rfl, h⟩
  case round =>
    clear h
    obtain ⟨k, hk, rfl, hS⟩ := hrel
    by_cases hlt : k < n
    · have g1 : decide ((k : Int) < (n : Int)) = true := by simp; omega
      have g2 : (k : Int) < (n : Int) := by omega
      have hD := hS.drew
      obtain ⟨b1, o1, cv, rfl, hcv, hc, h9⟩ := hD.slice_get k (by rw [HN.out]; exact hlt) (by omega)
      obtain ⟨v, rfl⟩ : ∃ v, cv = [v] := by match cv, hcv with | [x], _ => exact ⟨x, rfl⟩
      obtain ⟨b2, o2, cu, rfl, hcu, hd, h10⟩ := h9.p2.slice_get k (by rw [HN.out]; exact hlt) (by omega)
      obtain ⟨u, rfl⟩ : ∃ v, cu = [v] := by match cu, hcu with | [x], _ => exact ⟨x, rfl⟩
      have e1 := hc 0 _ rfl
      have e2 := hd 0 _ rfl
      simp at e1 e2
      have h11 := h10.p2
      have hS0 : True := trivial
      clear hD hc hd h9 h10
      go_wp2_with fail
      refine wp_region_canon rfl (fun _ => True) [(0, .p), (1, .p), (2, .p), (3, .t), (4, .p), (5, .p), (6, .p), (7, .t), (8, .e false), (9, .p)] (by kernel_rfl) ?_
      (repeat (first | (refine C_p (v := ?_) rfl rfl (fun w' => ?_) ?_; rotate_left; (go_simp; with_reducible rfl); simp only [Act.put, List.setIfInBounds_toArray, List.set_cons_zero, List.set_cons_succ]) | (refine C_s (v := ?_) rfl rfl hS0 (fun w' hS => ?_) ?_; rotate_left; ((try dsimp only at hS); go_simp; with_reducible rfl); simp only [Act.put, List.setIfInBounds_toArray, List.set_cons_zero, List.set_cons_succ]) | (refine C_t (v := ?_) rfl rfl ?_ ?_; rotate_left; (go_simp; with_reducible rfl); simp only [Act.put, List.setIfInBounds_toArray, List.set_cons_zero, List.set_cons_succ]) | (refine C_po rfl rfl ?_; simp only [Act.put, List.setIfInBounds_toArray, List.set_cons_zero, List.set_cons_succ]) | (refine C_so rfl rfl hS0 ?_; simp only [Act.put, List.setIfInBounds_toArray, List.set_cons_zero, List.set_cons_succ]) | (refine C_to rfl rfl ?_; simp only [Act.put, List.setIfInBounds_toArray, List.set_cons_zero, List.set_cons_succ])))
      (refine C_e rfl rfl (fun K hK => ?_); go_simp)
      refine (sameBytes_spec _ _ _ _ h11).mono ?_
      rintro e w1 ⟨rfl, h12⟩
      rw [decide_eq_true rfl]
      (refine hK _ _ (fun h => by cases h) ?_; clear hK K; (try simp only [Act.put, List.setIfInBounds_toArray, List.set_cons_zero, List.set_cons_succ]))
      (repeat (first | (refine C_p (v := ?_) rfl rfl (fun w' => ?_) ?_; rotate_left; (go_simp; with_reducible rfl); simp only [Act.put, List.setIfInBounds_toArray, List.set_cons_zero, List.set_cons_succ]) | (refine C_s (v := ?_) rfl rfl hS0 (fun w' hS => ?_) ?_; rotate_left; ((try dsimp only at hS); go_simp; with_reducible rfl); simp only [Act.put, List.setIfInBounds_toArray, List.set_cons_zero, List.set_cons_succ]) | (refine C_t (v := ?_) rfl rfl ?_ ?_; rotate_left; (go_simp; with_reducible rfl); simp only [Act.put, List.setIfInBounds_toArray, List.set_cons_zero, List.set_cons_succ]) | (refine C_po rfl rfl ?_; simp only [Act.put, List.setIfInBounds_toArray, List.set_cons_zero, List.set_cons_succ]) | (refine C_so rfl rfl hS0 ?_; simp only [Act.put, List.setIfInBounds_toArray, List.set_cons_zero, List.set_cons_succ]) | (refine C_to rfl rfl ?_; simp only [Act.put, List.setIfInBounds_toArray, List.set_cons_zero, List.set_cons_succ])))
      refine C_nil ?_
      clear e1 e2 h11 hS
      go_wp2_with fail
      go_roundw
      case rel => exact ⟨k + 1, by omega, by go_num, h12.drop.drop.p1⟩
      case measure => simp [intOf]; omega
    · have g1 : decide ((k : Int) < (n : Int)) = false := by simp; omega
      go_wp2_with fail
      go_ret
      exact ⟨rfl, hS.drop.drop⟩
theorem ints_cell {I : Mem} {w : World} {a : Option Addr} {n c : Nat} {ns : List Int} (hn : n = ns.length) (hv : (rInt.slice 1).rel I [.slice a n c] ns) (he : Ext I w) (k : Nat) (hk : k < n) :
    ∃ b o, a = some ⟨b, o, none⟩ ∧ w.cell? ⟨b, o + k, none⟩ = some (.int .i64 (ns[k]'(hn ▸ hk))) := by
  subst hn
  obtain ⟨a', c', e, hw, hc⟩ := ints_rel.1 hv
  cases e
  obtain ⟨b, o, e, h⟩ := cells_ext hc (fun e => by have := congrArg List.length e; rw [List.length_map, List.length_nil] at this; omega)
  exact ⟨b, o, e, h w he k _ (by rw [List.getElem?_map, List.getElem?_eq_getElem hk]; rfl)⟩
set_option maxRecDepth 100000 in
set_option maxHeartbeats 4000000 in
theorem records30_spec {W w : World} {A : Assn} {I : Mem} (v : Value) (ns : List Int) (h : Sat W w (sep (kn I) A)) (hv : (rInt.slice 1).rel I [v] ns) (h64 : ∀ n ∈ ns, I64' n) :
    Calls Tryz.prog 14 #[v] w fun e w' => ∃ a c vs xs, e = .returned (.slice a xs.length c) ∧ xs.length = min ns.length 6 ∧ (∀ x ∈ xs, x.length ≤ 10) ∧ Sat W w' (sep (osl 39 1 a xs.length c vs) (sep ((rBytes.rows 1).is vs xs) (sep (kn I) A))) := by
  obtain ⟨av, cv, rfl, hsw, -⟩ := ints_rel.1 hv
  obtain ⟨nl, hnl⟩ : ∃ nl, nl = ns.length := ⟨_, rfl⟩
  have hlc : nl ≤ cv := by rw [hnl]; exact hsw.1
  have hcap : cv ≤ 9223372036854775807 := hsw.2.1
  rw [← hnl] at hv ⊢
  have h0 : Sat W w (sep (osl 39 1 none 0 0 []) (sep ((rBytes.rows 1).is [] []) (sep (kn I) A))) :=
    (Sat.startPers W (fun I => (rBytes.rows 1).rel I [] []) (fun _ _ hl h => (rBytes.rows 1).mono hl h) h ⟨[], rfl, trivial⟩).osl_nil 39 1
  have HNL := Lib.hid hnl
  have HV := Lib.hid hv
  have H64 := Lib.hid h64
  clear hnl hv h hsw h64
  go_enter Tryz.func14, Tryz.ntmps14
  go_wp2_with fail
  go_loopw [3, 4] (fun ov iv wr => ∃ (xs : List (List UInt8)) (a : Option Addr) (c : Nat) (vs : List Value), ov = .slice a xs.length c ∧ iv = .int .i64 (xs.length : Nat) ∧ xs.length ≤ min nl 6 ∧ (∀ x ∈ xs, x.length ≤ 10) ∧ Sat W wr (sep (osl 39 1 a xs.length c vs) (sep ((rBytes.rows 1).is vs xs) (sep (kn I) A)))) (fun _ iv _ => nl - (intOf iv).toNat)
  case atStart => exact ⟨[], none, 0, [], rfl, rfl, Nat.zero_le _, fun x hx => (by cases hx), h0⟩
  case round =>
    clear h0
    obtain ⟨xs, a, c, vs, rfl, rfl, hle, hxs, hS⟩ := hrel
    obtain ⟨k, hk⟩ : ∃ k, k = xs.length := ⟨_, rfl⟩
    rw [← hk] at hS hle ⊢
    have HK := Lib.hid hk
    have HXS := Lib.hid hxs
    clear hk hxs
    by_cases hlt : k < nl
    · by_cases hlt6 : k < 6
      · have g2 : (k : Int) < (nl : Int) := by omega
        have g3 : (k : Int) < 6 := by omega
        obtain ⟨bb, oo, rfl, hcell⟩ := ints_cell HNL.out HV.out hS.p2.ext k hlt
        obtain ⟨z, hz⟩ : ∃ z, z = ns[k]'(by have := HNL.out; omega) := ⟨_, rfl⟩
        have hz64 : I64' z := by rw [hz]; exact H64.out _ (List.getElem_mem _)
        rw [← hz] at hcell
        have HZ := Lib.hid hz64
        clear hz hz64
        go_wp2_with fail
        refine (around_spec z 1000 wr HZ.out.1 HZ.out.2 (by omega) (by omega)).mono ?_
        rintro e w1 ⟨rfl, rfl⟩
        have hq := aroundI_lt z 1000 (by omega)
        obtain ⟨q, hq2⟩ : ∃ q : Nat, aroundI z 1000 = (q : Int) := ⟨(aroundI z 1000).toNat, by omega⟩
        rw [hq2] at hq ⊢
        have hq1 : q < 1000 := by omega
        have hrem : (q : Int).tmod 11 = ((q % 11 : Nat) : Int) := by rw [Int.tmod_eq_emod_of_nonneg (by omega)]; omega
        have hquo : (q : Int).tdiv 11 = ((q / 11 : Nat) : Int) := by rw [Int.tdiv_eq_ediv_of_nonneg (by omega)]; omega
        obtain ⟨r, hr⟩ : ∃ r, r = q % 11 := ⟨_, rfl⟩
        obtain ⟨d, hd⟩ : ∃ d, d = q / 11 := ⟨_, rfl⟩
        rw [← hr] at hrem
        rw [← hd] at hquo
        have hr10 : r ≤ 10 := by omega
        have hd90 : d ≤ 90 := by omega
        have h1 := hS.osl_nil 5 1
        have HH := Lib.hid (And.intro hle HZ)
        clear hq hr hd hq2 hle HZ hcell hS
        go_wp2_with fail
        go_loopw [6, 7] (fun bv' kv wr => ∃ (bs : List UInt8) (a2 : Option Addr) (c2 : Nat), bv' = .slice a2 bs.length c2 ∧ kv = .int .i64 (bs.length : Nat) ∧ bs.length ≤ r ∧ Sat W wr (sep (osl 5 1 a2 bs.length c2 (bs.map bv)) (sep (osl 39 1 a k c vs) (sep ((rBytes.rows 1).is vs xs) (sep (kn I) A))))) (fun _ kv _ => r - (intOf kv).toNat)
        case atStart => exact ⟨[], none, 0, rfl, rfl, Nat.zero_le _, h1⟩
        case round =>
          clear h1
          obtain ⟨bs, a2, c2, rfl, rfl, hbr, hS⟩ := hrel
          obtain ⟨j, hj⟩ : ∃ j, j = bs.length := ⟨_, rfl⟩
          rw [← hj] at hS hbr ⊢
          have HJ := Lib.hid hj
          clear hj
          by_cases hjr : j < r
          · have g5 : (j : Int) < (r : Int) := by omega
            have hjq : j * q ≤ 10 * 1000 := Nat.mul_le_mul (by omega) (by omega)
            obtain ⟨m, hm⟩ : ∃ m, m = j * q := ⟨_, rfl⟩
            have hmI : (j : Int) * (q : Int) = (m : Int) := by rw [hm]; norm_cast
            rw [← hm] at hjq
            obtain ⟨y, hy⟩ : ∃ y : UInt8, IntKind.u8.wrap ((d : Int) + (m : Int)) = (y.toNat : Int) := ⟨UInt8.ofNat (d + m), by
              rw [IntKind.wrap_u8]; simp⟩
            have HM := Lib.hid hm
            clear hm
            have h2 := hS.alloc (.cells #[.int .u8 (y.toNat : Int)] 5)
            go_wp2_with (at_builtin; refine wpl_append_osl rfl (.tmp 29) (.tmp 37) 39 rfl 5 1 1 (.int .u8 0) Tryz.underlying39 infoU8w rfl rfl h2.p1 rfl [.int .u8 (y.toNat : Int)] rfl (by simp) (by intro b hb; cases hb; exact new_src _ [_] _) (by simp [Value.oneCell']) (by omega) (by unfold maxLen; omega) ?_)
            intro a9 c9 w9 h9
            clear hS h2
            go_wp2_with fail
            go_roundw
            case rel =>
              have e : (bs ++ [y]).length = j + 1 := by rw [List.length_append, ← HJ.out]; rfl
              refine ⟨bs ++ [y], a9, c9, by rw [e], by rw [e]; go_num, by rw [e]; omega, ?_⟩
              rw [e, List.map_append]
              exact h9.p1.drop
            case measure => simp [intOf]; omega
          · have g5 : ¬ (j : Int) < (r : Int) := by omega
            have h2 := (hS.alloc (.cells #[.slice a2 j c2] 39)).p2
            go_wp2_with (at_builtin; refine wpl_append_osl rfl (.tmp 39) (.tmp 41) 29 rfl 39 1 24 (.slice none 0 0) Tryz.underlying29 infoBytesJ rfl rfl h2 rfl [.slice a2 j c2] rfl (by simp) (by intro b hb; cases hb; exact new_src _ [_] _) (by simp [Value.oneCell']) (by omega) (by unfold maxLen; omega) ?_)
            intro a9 c9 w9 h9
            clear hS h2
            go_wp2_with fail
            go_roundw
            case rel =>
              have hle := HH.out.1
              have h10 : Sat W w9 (sep (osl 5 1 a2 j c2 (bs.map bv)) (sep (blk wr.heap.size (.cells #[.slice a2 j c2] 39)) (sep (osl 39 1 a9 (k + 1) c9 (vs ++ [.slice a2 j c2])) (sep ((rBytes.rows 1).is vs xs) (sep (kn I) A))))) := by
                simpa only [sep_comm, sep_lcomm, sep_assoc] using h9
              have h11 := h10.bytes_of_osl.2.p1.drop
              have h12 : Sat W w9 (sep ((rBytes.rows 1).is vs xs) (sep (rBytes.is [.slice a2 j c2] bs) (sep (osl 39 1 a9 (k + 1) c9 (vs ++ [.slice a2 j c2])) (sep (kn I) A)))) := by
                simpa only [sep_comm, sep_lcomm, sep_assoc] using h11
              have e : (xs ++ [bs]).length = k + 1 := by rw [List.length_append, ← HK.out]; rfl
              refine ⟨xs ++ [bs], a9, c9, vs ++ [.slice a2 j c2], by rw [e], by rw [e]; go_num, by rw [e]; omega, ?_, ?_⟩
              · intro x hx
                rcases List.mem_append.1 hx with hx | hx
                · exact HXS.out x hx
                · rw [List.mem_singleton.1 hx, ← HJ.out]; omega
              · rw [e]; exact (h12.snoc rfl).p1
            case measure => simp [intOf]; omega
      · have g2 : (k : Int) < (nl : Int) := by omega
        have g3 : ¬ (k : Int) < 6 := by omega
        go_wp2_with fail
        go_ret
        have := HK.out
        exact ⟨a, c, vs, xs, by rw [← HK.out]; rfl, by omega, HXS.out, by rw [← HK.out]; exact hS⟩
    · have g2 : ¬ (k : Int) < (nl : Int) := by omega
      go_wp2_with fail
      go_ret
      have := HK.out
      exact ⟨a, c, vs, xs, by rw [← HK.out]; rfl, by omega, HXS.out, by rw [← HK.out]; exact hS⟩
end Go.Proofs.YtdaknmcmjnbfeaaGreat
