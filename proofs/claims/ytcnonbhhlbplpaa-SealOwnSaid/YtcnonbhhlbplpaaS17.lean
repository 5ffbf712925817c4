/- What SealOwn needs: Put of bytes that the caller owns, the wire's Ints. -/
import Derived.Test.YtcnonbhhlbplpaaS16
import Derived.Test.YtcnonbhhlbplpaaW6s
namespace PA
open Go Go.RowKit
def intsE (ns : List Int) : List UInt8 := Lib.uvarint ns.length ++ ns.flatMap encI
theorem encI_len (n : Int) (h1 : -9223372036854775808 ≤ n) (h2 : n ≤ 9223372036854775807) : (encI n).length ≤ 10 := Lib.uvarint_length64 (Lib.zigzag_lt h1 h2)
theorem flat_len : ∀ (ns : List Int), (∀ n ∈ ns, -9223372036854775808 ≤ n ∧ n ≤ 9223372036854775807) → (ns.flatMap encI).length ≤ 10 * ns.length
  | [], _ => by simp
  | n :: ns, h => by
    have h1 := encI_len n (h n (by simp)).1 (h n (by simp)).2
    have h2 := flat_len ns fun m hm => h m (by simp [hm])
    rw [List.flatMap_cons, List.length_append, List.length_cons]; omega
theorem flat_len1 : ∀ (ns : List Int), ns.length ≤ (ns.flatMap encI).length
  | [] => by simp
  | n :: ns => by
    have h1 : 1 ≤ (encI n).length := Lib.uvarint_pos _
    have h2 := flat_len1 ns
    rw [List.flatMap_cons, List.length_append, List.length_cons]; omega
end PA
namespace Go.Proofs.Ytcnonbhhlbplpaa
open Go.RowKit PA
set_option maxRecDepth 100000 in
set_option maxHeartbeats 4000000 in
theorem sput_own {W w : World} {A : Assn} {I : Mem} (p : Nat) (M : Int → Option Ent) (n : Nat) (k : Int) (va : Option Addr) (vc : Nat) (x : List UInt8) (s : Nat) (h : Sat W w (sep (isBox p M n) (sep (kn I) A))) (hsw : Swf va x.length vc) (hsrc : ∀ b, va = some b → ∀ j u, (x.map bv)[j]? = some u → w.cell? (b.add j) = some u) (hok : putE M n k x = 0) :
    Calls Try.prog 11 #[.pointer (some ⟨p, 0, none⟩), .int .i64 k, .slice va x.length vc, .int .u64 (s : Nat)] w fun e w' => e = .returned (.tuple #[.int .u64 (commitN x s : Nat), .int .i64 0]) ∧ Sat W w' (sep (isBox p (eset M k ⟨x, s, false⟩) (n + 1)) (sep (kn I) A)) := by
  obtain ⟨hn, b, f, h0⟩ := isBox_open h
  have hx : ¬ (k < 0 ∨ 65535 < k) ∧ x.length ≤ 65536 ∧ M k = none ∧ n < 4096 := by
    unfold putE at hok
    split at hok
    · cases hok
    · split at hok
      · cases hok
      · split at hok
        · cases hok
        · split at hok
          · cases hok
          · rename_i g1 g2 g3 g4
            refine ⟨g1, by omega, ?_, by omega⟩
            cases hm : M k with
            | none => rfl
            | some e => rw [hm] at g3; exact absurd rfl g3
  obtain ⟨gk, gx, gm, gn⟩ := hx
  have hr1 : x.length = x.length := rfl
  have hr2 := hsw
  have c0 : w.cell? ⟨p, 0, none⟩ = some (.map (some b)) := h0.cell 0
  have hlk := run_lookup_bmap (P := Try.prog) (T := 61) Try.underlying61 Try.underlying3 zeroEntry h0.p1 k true
  have hfk : f k = none := h0.p2.pers_heap.1 k gm
  rw [hfk] at hlk
  have hlk2 : (Instr.lookup 61 (.map (some b)) (.int .i64 k) true).run Try.prog w = .ok (.tuple #[.agg #[.slice none 0 0, .int .u64 0, .bool false], .bool false]) w := hlk
  have h1 := h0.alloc0 (.cells #[.slice none 0 0, .int .u64 0, .bool false] 65)
  have c1 : (w.alloc (.cells #[.slice none 0 0, .int .u64 0, .bool false] 65)).cell? ⟨p, 0, none⟩ = some (.map (some b)) := h1.cell 0
  obtain ⟨es, clock, hm1, hm2, -, hm3⟩ := h1.p1.bmap_open
  have hln := run_len_map (P := Try.prog) _ 61 3 b es clock (by kernel_rfl) hm3.blk_heap
  rw [hm2] at hln
  obtain ⟨w1, hw1⟩ : ∃ w1, w1 = w.alloc (.cells #[.slice none 0 0, .int .u64 0, .bool false] 65) := ⟨_, rfl⟩
  rw [← hw1] at h1
  have hcl := clone_any va x.length vc (x.map bv) h1 (by intro b hb j u hu; rw [hw1]; exact old_src (hsrc b hb) _ j u hu) (by simp) hr2 (bv_one x) (by omega)
  obtain ⟨xl, hxl⟩ : ∃ xl, xl = x.length := ⟨_, rfl⟩
  rw [← hxl] at hcl gx hr2 ⊢
  obtain ⟨cm, hcm⟩ : ∃ cm, cm = commitN x s := ⟨_, rfl⟩
  rw [← hcm]
  have HCM := Lib.hid hcm
  clear hcm
  have HCL := Lib.hid hcl
  have HXL := Lib.hid hxl
  have HFK := Lib.hid (And.intro hfk gm)
  have gxI : ¬ (65536 : Int) < (xl : Int) := by omega
  have gnI : ¬ (4096 : Int) ≤ (n : Int) := by omega
  have gk1 : ¬ k < 0 := by omega
  have gk2 : ¬ 65535 < k := by omega
  have HW1 := Lib.hid hw1
  clear h h0 h1 hlk hsw hsrc hm1 hm2 hm3 hok gk gx gm hr1 hr2 hcl hxl hfk hw1
  go_enter Try.func11, Try.ntmps11
  go_upto_region 10 with (fail)
  rw [← HW1.out]
  go_wp2_with fail
  refine HCL.out.mono ?_
  rintro e w4 ⟨a4, c4, rfl, h4⟩
  obtain ⟨J, hJ, hb5, h6⟩ := (show Sat W w4 (sep (rBytes.is [.slice a4 xl c4] x) (sep (kn I) (sep (blk p (.cells #[.map (some b)] 63 (0, 0))) (sep (bmap b f n) (sep (sokA f M) A))))) by
    have := h4.bytes_of_osl.2
    simpa only [sep_comm, sep_lcomm, sep_assoc] using this).learn
  have h7 := (h6.alloc (.cells #[.slice a4 xl c4, .int .u64 (s : Nat), .bool false] 65)).drew
  obtain ⟨q, hq⟩ : ∃ q, q = w4.heap.size := ⟨_, rfl⟩
  obtain ⟨w5, hw5⟩ : ∃ w5, w5 = w4.alloc (.cells #[.slice a4 xl c4, .int .u64 (s : Nat), .bool false] 65) := ⟨_, rfl⟩
  rw [← hq, ← hw5] at h7
  have q0 : w5.drew.cell? ⟨q, 0, none⟩ = some (.slice a4 xl c4) := h7.cell 0
  have q1 : w5.drew.cell? ⟨q, 1, none⟩ = some (.int .u64 (s : Nat)) := h7.cell 1
  have q2 : w5.drew.cell? ⟨q, 2, none⟩ = some (.bool false) := h7.cell 2
  have p0 : w5.drew.cell? ⟨p, 0, none⟩ = some (.map (some b)) := h7.p2.cell 0
  obtain ⟨w6, n6, hup, hn6, h8⟩ := run_update_bmap (P := Try.prog) (T := 61) Try.underlying61 Try.underlying3 (h7.p3) k (.agg #[.slice a4 xl c4, .int .u64 (s : Nat), .bool false])
  rw [HFK.out.1] at hn6
  have hn7 : n6 = n + 1 := hn6
  subst hn7
  have k0 : w6.cell? ⟨q, 0, none⟩ = some (.slice a4 xl c4) := h8.p1.cell 0
  have k1 : w6.cell? ⟨q, 1, none⟩ = some (.int .u64 (s : Nat)) := h8.p1.cell 1
  have k2 : w6.cell? ⟨q, 2, none⟩ = some (.bool false) := h8.p1.cell 2
  have hbox : Sat W w6 (sep (isBox p (eset M k ⟨x, s, false⟩) (n + 1)) (sep (kn J) A)) := by
    refine isBox_mk (b := b) (f := fset f k (some (entV a4 xl c4 s false))) (n := n + 1) (by omega) ?_
    have h9 := sokA_put (f' := fset f k (some (entV a4 xl c4 s false))) (M' := eset M k ⟨x, s, false⟩) (show Sat W w6 (sep (sokA f M) (sep (kn J) (sep (blk p (.cells #[.map (some b)] 63 (0, 0))) (sep (bmap b (fset f k (some (entV a4 xl c4 s false))) (n + 1)) A)))) by
      simpa only [sep_comm, sep_lcomm, sep_assoc, entV] using h8.p1.drop) (fun K hK hs => by
      have := hs.put k ⟨x, s, false⟩ (a := a4) (c := c4) (by show x.length ≤ 65536; rw [← HXL.out]; omega) (by show rBytes.rel K [.slice a4 x.length c4] x; rw [← HXL.out]; exact rBytes.mono hK hb5)
      rw [← HXL.out] at this; exact this)
    simpa only [sep_comm, sep_lcomm, sep_assoc] using h9
  have HBOX := Lib.hid hbox
  have hce := commitE_spec a4 xl c4 s false x (show Sat W w6 (sep (kn J) (sep (isBox p (eset M k ⟨x, s, false⟩) (n + 1)) A)) by simpa only [sep_comm, sep_lcomm, sep_assoc] using hbox) hb5 (by rw [← HXL.out]; omega)
  unfold entV at hce
  rw [← HCM.out] at hce
  have HCE := Lib.hid hce
  have HQ := Lib.hid hq
  have HW5 := Lib.hid hw5
  have HJ := Lib.hid hJ
  have hS0 : True := trivial
  clear hlk2 c0 c1 hln HCL h4 h6 h7 h8 hbox hce hq hw5 hb5 hJ gxI gnI gk1 gk2
  go_upto_region 11 with (fail)
  rw [← HW5.out, ← HQ.out]
  refine wp_region_canon rfl (fun _ => True) [(0, .p), (1, .p), (2, .p), (3, .t), (4, .p), (5, .t), (6, .e false)] (by kernel_rfl) ?_
  (repeat (first | (refine C_p (v := ?_) rfl rfl (fun w' => ?_) ?_; rotate_left; (go_simp; with_reducible rfl); simp only [Act.put, List.setIfInBounds_toArray, List.set_cons_zero, List.set_cons_succ]) | (refine C_s (v := ?_) rfl rfl hS0 (fun w' hS => ?_) ?_; rotate_left; ((try dsimp only at hS); go_simp; with_reducible rfl); simp only [Act.put, List.setIfInBounds_toArray, List.set_cons_zero, List.set_cons_succ]) | (refine C_t (v := ?_) rfl rfl ?_ ?_; rotate_left; (go_simp; with_reducible rfl); simp only [Act.put, List.setIfInBounds_toArray, List.set_cons_zero, List.set_cons_succ]) | (refine C_po rfl rfl ?_; simp only [Act.put, List.setIfInBounds_toArray, List.set_cons_zero, List.set_cons_succ]) | (refine C_so rfl rfl hS0 ?_; simp only [Act.put, List.setIfInBounds_toArray, List.set_cons_zero, List.set_cons_succ]) | (refine C_to rfl rfl ?_; simp only [Act.put, List.setIfInBounds_toArray, List.set_cons_zero, List.set_cons_succ])))
  (refine C_e rfl rfl (fun K hK => ?_); go_simp)
  (refine hK _ _ (fun h => by cases h) ?_; clear hK K; (try simp only [Act.put, List.setIfInBounds_toArray, List.set_cons_zero, List.set_cons_succ]))
  (repeat (first | (refine C_p (v := ?_) rfl rfl (fun w' => ?_) ?_; rotate_left; (go_simp; with_reducible rfl); simp only [Act.put, List.setIfInBounds_toArray, List.set_cons_zero, List.set_cons_succ]) | (refine C_s (v := ?_) rfl rfl hS0 (fun w' hS => ?_) ?_; rotate_left; ((try dsimp only at hS); go_simp; with_reducible rfl); simp only [Act.put, List.setIfInBounds_toArray, List.set_cons_zero, List.set_cons_succ]) | (refine C_t (v := ?_) rfl rfl ?_ ?_; rotate_left; (go_simp; with_reducible rfl); simp only [Act.put, List.setIfInBounds_toArray, List.set_cons_zero, List.set_cons_succ]) | (refine C_po rfl rfl ?_; simp only [Act.put, List.setIfInBounds_toArray, List.set_cons_zero, List.set_cons_succ]) | (refine C_so rfl rfl hS0 ?_; simp only [Act.put, List.setIfInBounds_toArray, List.set_cons_zero, List.set_cons_succ]) | (refine C_to rfl rfl ?_; simp only [Act.put, List.setIfInBounds_toArray, List.set_cons_zero, List.set_cons_succ])))
  refine C_nil ?_
  clear q0 q1 q2 p0 hup
  go_wp2_with fail
  refine HCE.out.mono ?_
  rintro e w7 ⟨rfl, hS⟩
  go_wp2_with fail
  go_ret2
  refine ⟨rfl, ?_⟩
  have := hS.kn_mono HJ.out
  simpa only [sep_comm, sep_lcomm, sep_assoc] using this
theorem isRd_slice {W w : World} {A : Assn} {T p : Nat} {st : RSt} (h : Sat W w (sep (isRd T p st) A)) : ∃ a n c, w.cell? ⟨p, 0, none⟩ = some (.slice a n c) ∧ (∀ l, st = .ok l → n = l.length) := by
  cases st with
  | error e =>
    obtain ⟨-, a, n, c, h1⟩ := isRd_er h
    exact ⟨a, n, c, h1.cell 0, fun l e => (by cases e)⟩
  | ok l =>
    obtain ⟨a, c, -, h1⟩ := isRd_ok h
    exact ⟨a, _, c, h1.cell 0, fun l' e => by cases e; rfl⟩
theorem read_any {W w : World} {A : Assn} (a : Option Addr) (c : Nat) (l : List UInt8) (h : Sat W w A) (hsw : Swf a l.length c) (hsrc : ∀ b, a = some b → ∀ j u, (l.map bv)[j]? = some u → w.cell? (b.add j) = some u) (hb : l.length ≤ 1073742900) :
    Calls Try.prog 31 #[.slice a l.length c] w fun e w' => ∃ p, e = .returned (.pointer (some ⟨p, 0, none⟩)) ∧ Sat W w' (sep (isRd 85 p (.ok l)) A) := by
  have hcl := clone_any a l.length c (l.map bv) h hsrc (by simp) hsw (bv_one l) (by omega)
  have HCL := Lib.hid hcl
  clear hsrc hcl hsw hb h
  go_enter Try.func31, Try.ntmps31
  go_wp2_with fail
  refine HCL.out.mono ?_
  rintro e w2 ⟨a2, c2, rfl, hS⟩
  have h2 := hS.bytes_of_osl.2
  have h3 := h2.alloc (.cells #[.slice a2 l.length c2, .int .i64 0] 85)
  clear hS h2
  go_wp2_with fail
  go_ret
  exact ⟨w2.heap.size, rfl, isRd_okmk rfl h3⟩
theorem slice_preI (a : Option Addr) (n c j : Nat) (hj : j ≤ c) (w : World) : (Instr.slice 32 (.slice a n c) none (some (.int .i64 (j : Int))) none).run Try.prog w = .ok (.slice a j c) w := by
  have hu := Try.underlying32
  cases a with
  | none => simp [Instr.slice, Instr.sliceBounds, Instr.sliceBound, go_sem]; exact fun h => absurd h (by omega)
  | some x => simp [Instr.slice, Instr.sliceBounds, Instr.sliceBound, go_sem, add_zero]; exact fun h => absurd h (by omega)
set_option maxRecDepth 100000 in
set_option maxHeartbeats 2000000 in
theorem wints_spec {W w : World} {A : Assn} {I : Mem} (p : Nat) (bs : List UInt8) (a : Option Addr) (c : Nat) (ns : List Int) (h : Sat W w (sep (isWr p bs) (sep (kn I) A))) (hc : cellsAt a (ns.map iv) I) (hn : ns.length ≤ 100) (hb : bs.length ≤ 1000)
    (h64 : ∀ n ∈ ns, -9223372036854775808 ≤ n ∧ n ≤ 9223372036854775807) :
    Calls Try.prog 29 #[.pointer (some ⟨p, 0, none⟩), .slice a ns.length c] w fun e w' => e = .returned (.tuple #[]) ∧ Sat W w' (sep (isWr p (bs ++ intsE ns)) (sep (kn I) A)) := by
  have hw1 : IntKind.u64.wrap (ns.length : Int) = (ns.length : Nat) := wraps_u64 _ (by omega) (by omega)
  have hul := Lib.uvarint_length64 (x := ns.length) (by omega)
  have hu := wuint_spec p bs ns.length (by omega) h (by omega)
  obtain ⟨B, hB⟩ : ∃ B, B = bs ++ Lib.uvarint ns.length := ⟨_, rfl⟩
  have hBl : B.length ≤ 1010 := by rw [hB, List.length_append]; omega
  rw [← hB] at hu
  have hBE : bs ++ intsE ns = B ++ ns.flatMap PA.encI := by rw [hB, intsE, List.append_assoc]
  rw [hBE]
  obtain ⟨m, hm⟩ : ∃ m, m = ns.length := ⟨_, rfl⟩
  rw [← hm] at hw1 hu ⊢
  have hmI : (m : Int) ≤ 100 := by omega
  have HU := Lib.hid hu
  have HM := Lib.hid hm
  have HC := Lib.hid hc
  have H64 := Lib.hid h64
  have HBL := Lib.hid hBl
  have HN := Lib.hid hn
  clear hul hu hm hc hn hb h64 hB hBE h hBl
  go_enter Try.func29, Try.ntmps29
  go_wp2_with fail
  refine HU.out.mono ?_
  rintro e w2 ⟨rfl, h1⟩
  clear HU
  go_wp2_with fail
  go_loopw [13] (fun kv wr => ∃ k : Nat, k ≤ m ∧ kv = .int .i64 k ∧ Sat W wr (sep (isWr p (B ++ (ns.take k).flatMap PA.encI)) (sep (kn I) A))) (fun kv _ => m - (intOf kv).toNat)
  case atStart => exact ⟨0, Nat.zero_le _, rfl, by simpa using h1⟩
  case round =>
    clear h1
    obtain ⟨k, hk, rfl, hS⟩ := hrel
    by_cases hkm : k < m
    · have hkl : k < ns.length := by rw [← HM.out]; exact hkm
      obtain ⟨x, hx⟩ : ∃ x, x = ns[k] := ⟨_, rfl⟩
      obtain ⟨g, o, rfl, hcc⟩ := cells_ext HC.out (fun e => by have := congrArg List.length e; simp at this; rw [this] at hkl; simp at hkl)
      have hc := hcc wr hS.p1.ext k (iv x) (by rw [List.getElem?_map, List.getElem?_eq_getElem hkl, hx]; rfl)
      unfold iv at hc
      have hx64 := H64.out x (by rw [hx]; exact List.getElem_mem _)
      have hfl := flat_len (ns.take k) fun n hn => H64.out n (List.mem_of_mem_take hn)
      rw [List.length_take] at hfl
      have hwi := wint_spec p (B ++ (ns.take k).flatMap PA.encI) x hx64.1 hx64.2 hS (by rw [List.length_append]; have := HBL.out; have := HN.out; omega)
      have e1 : B ++ (ns.take k).flatMap PA.encI ++ PA.encI x = B ++ (ns.take (k + 1)).flatMap PA.encI := by
        rw [List.take_succ_eq_append_getElem hkl, List.flatMap_append, ← hx, List.append_assoc]; simp
      rw [e1] at hwi
      have HWI := Lib.hid hwi
      have hkI : (k : Int) < m := by omega
      clear hx hcc hx64 hfl hwi e1 hS
      go_wp2_with fail
      refine HWI.out.mono ?_
      rintro e w3 ⟨rfl, h3⟩
      go_wp2_with fail
      go_roundw
      case rel => exact ⟨k + 1, by omega, by go_num, h3⟩
      case measure => simp [intOf]; omega
    · obtain rfl : k = m := by omega
      have hkI : ¬ (k : Int) < k := by omega
      rw [List.take_of_length_le (by rw [← HM.out]; exact Nat.le_refl _)] at hS
      have HS := Lib.hid hS
      clear hS
      go_wp2_with fail
      go_end0
      exact ⟨rfl, HS.out⟩
end Go.Proofs.Ytcnonbhhlbplpaa
