/- Package seal: sorted keys, Commitments. -/
import Derived.Test.YtcnonbhhlbplpaaS4
namespace PA
open Go Go.RowKit
def MKeys (M : Int → Option Ent) (ks : List Int) : Prop := ks.Pairwise (· < ·) ∧ ∀ k, k ∈ ks ↔ (M k).isSome = true
def comE (M : Int → Option Ent) (k : Int) : Nat := match M k with | some e => commitN e.b e.s | none => 0
def opE (M : Int → Option Ent) (k : Int) : Bool := match M k with | some e => e.o | none => false
theorem asc_ext : ∀ {l l' : List Int}, l.Pairwise (· < ·) → l'.Pairwise (· < ·) → (∀ k, k ∈ l ↔ k ∈ l') → l = l'
  | [], [], _, _, _ => rfl
  | [], b :: l', _, _, h => by have := (h b).2 (by simp); cases this
  | a :: l, [], _, _, h => by have := (h a).1 (by simp); cases this
  | a :: l, b :: l', h1, h2, h => by
    have h1' := List.pairwise_cons.1 h1
    have h2' := List.pairwise_cons.1 h2
    have e : a = b := by
      have ha := (h a).1 (by simp)
      have hb := (h b).2 (by simp)
      rcases List.mem_cons.1 ha with e | ha
      · exact e
      · rcases List.mem_cons.1 hb with e | hb
        · exact e.symm
        · have := h1'.1 b hb; have := h2'.1 a ha; omega
    subst e
    rw [asc_ext h1'.2 h2'.2 fun k => ?_]
    constructor
    · intro hk
      rcases List.mem_cons.1 ((h k).1 (by simp [hk])) with e | h3
      · have := h1'.1 k hk; omega
      · exact h3
    · intro hk
      rcases List.mem_cons.1 ((h k).2 (by simp [hk])) with e | h3
      · have := h2'.1 k hk; omega
      · exact h3
theorem MKeys.uniq {M : Int → Option Ent} {l l' : List Int} (h : MKeys M l) (h' : MKeys M l') : l = l' := asc_ext h.1 h'.1 fun k => by rw [h.2, h'.2]
end PA
namespace Go.Proofs.Ytcnonbhhlbplpaa
open Go.RowKit PA
section
variable {W w : World} {A : Assn}
theorem isBox_know {p : Nat} {M : Int → Option Ent} {n : Nat} (h : Sat W w (sep (isBox p M n) A)) : n ≤ 4096 ∧ ∃ J b f, SOK J f M ∧
    Sat W w (sep (blk p (.cells #[.map (some b)] 63 (0, 0))) (sep (bmap b f n) (sep (kn J) A))) := by
  obtain ⟨hn, b, f, h0⟩ := isBox_open h
  obtain ⟨I, h1⟩ := h0.know
  obtain ⟨J, -, hJ, h2⟩ := (show Sat W w (sep (sokA f M) (sep (kn I) (sep (blk p (.cells #[.map (some b)] 63 (0, 0))) (sep (bmap b f n) A)))) by simpa only [sep_comm, sep_lcomm, sep_assoc] using h1).learn
  exact ⟨hn, J, b, f, hJ, by simpa only [sep_comm, sep_lcomm, sep_assoc] using h2⟩
theorem isBox_unknow {p : Nat} {M : Int → Option Ent} {n b : Nat} {f : Int → Option Value} {J : Mem} (hn : n ≤ 4096) (hs : SOK J f M)
    (h : Sat W w (sep (blk p (.cells #[.map (some b)] 63 (0, 0))) (sep (bmap b f n) (sep (kn J) A)))) : Sat W w (sep (isBox p M n) A) := by
  have h1 := Sat.tell (p := fun I => SOK I f M) (hp := fun _ _ hl h => h.mono hl) (show Sat W w (sep (kn J) (sep (blk p (.cells #[.map (some b)] 63 (0, 0))) (sep (bmap b f n) A))) by simpa only [sep_comm, sep_lcomm, sep_assoc] using h) hs
  have h2 : Sat W w (sep (sokA f M) (sep (kn J) (sep (blk p (.cells #[.map (some b)] 63 (0, 0))) (sep (bmap b f n) A)))) := h1
  refine isBox_mk (b := b) (f := f) hn ?_
  have h3 := h2.p1.drop
  simpa only [sep_comm, sep_lcomm, sep_assoc] using h3
end
theorem mkeys_of {I : Mem} {f : Int → Option Value} {M : Int → Option Ent} {ks : List Int} (hs : SOK I f M) (h : KeysOf f ks) : MKeys M ks := ⟨h.1, fun k => by rw [h.2, hs.isSome]⟩
theorem ssorted_spec {W w : World} {A : Assn} (b : Nat) (f : Int → Option Value) (nf : Nat) (hN : nf ≤ 1000000000) (h : Sat W w (sep (bmap b f nf) A)) :
    Calls Try.prog 36 #[.map (some b)] w fun e w' => ∃ a c ks, e = .returned (.slice a ks.length c) ∧ KeysOf f ks ∧ ks.length ≤ nf ∧ Sat W w' (sep (osl 3 1 a ks.length c (ks.map iv)) (sep (bmap b f nf) A)) := by
  have H := Lib.hid h
  have HN := Lib.hid hN
  clear h hN
  go_enter Try.func36, Try.ntmps36
  go_wp2_with fail
  refine (keys_spec b f nf H.out).mono ?_
  rintro e w1 ⟨rfl, h1⟩
  have H1 := Lib.hid h1
  clear h1
  go_wp2_with fail
  refine (sortedKeys_spec _ b f nf HN.out H1.out).mono ?_
  rintro e w2 ⟨a, c, ks, rfl, hk, hl, h2⟩
  have HH := Lib.hid (And.intro hk (And.intro hl h2))
  clear hk hl h2
  go_wp2_with fail
  go_ret
  exact ⟨a, c, ks, rfl, HH.out.1, HH.out.2.1, HH.out.2.2⟩
theorem infoU64s : (Try.prog.info? 22).map (fun i => (i.zero, i.size, i.bytes)) = some (some (.int .u64 0), 1, 8) := by kernel_rfl
set_option maxRecDepth 100000 in
set_option maxHeartbeats 4000000 in
theorem scommitments_spec {W w : World} {A : Assn} (p : Nat) (M : Int → Option Ent) (n : Nat) (h : Sat W w (sep (isBox p M n) A)) :
    Calls Try.prog 12 #[.pointer (some ⟨p, 0, none⟩)] w fun e w' => ∃ a c ks, e = .returned (.slice a ks.length c) ∧ MKeys M ks ∧ ks.length ≤ n ∧
      Sat W w' (sep (osl 22 1 a ks.length c ((ks.map (comE M)).map uv)) (sep (isBox p M n) A)) := by
  obtain ⟨hn, J, b, f, hsk, h0⟩ := isBox_know h
  have c0 : w.cell? ⟨p, 0, none⟩ = some (.map (some b)) := h0.cell 0
  have H0 := Lib.hid (ssorted_spec b f n (by omega) h0.p1)
  have HN := Lib.hid hn
  have HSK := Lib.hid hsk
  clear h h0 hsk hn
  go_enter Try.func12, Try.ntmps12
  go_wp2_with fail
  refine H0.out.mono ?_
  rintro e w1 ⟨a, c, ks, rfl, hk, hl, h1⟩
  clear H0 c0
  have HMK := Lib.hid (mkeys_of HSK.out hk)
  obtain ⟨m, hm⟩ : ∃ m, m = ks.length := ⟨_, rfl⟩
  rw [← hm] at hl h1 ⊢
  have h2 := (show Sat W w1 (sep (blk p (.cells #[.map (some b)] 63 (0, 0))) (sep (bmap b f n) (sep (kn J) (sep (osl 3 1 a m c (ks.map iv)) A)))) by simpa only [sep_comm, sep_lcomm, sep_assoc] using h1).osl_nil 22 1
  have HM := Lib.hid hm
  have HL := Lib.hid hl
  have hmI : (m : Int) ≤ 4096 := by have := HN.out; omega
  clear h1 hk hm hl
  go_wp2_with fail
  go_loopw [3, 13] (fun lv kv wr => ∃ k : Nat, k ≤ m ∧ kv = .int .i64 k ∧ ∃ a2 c2, lv = .slice a2 k c2 ∧ Sat W wr (sep (osl 22 1 a2 k c2 (((ks.map (comE M)).map uv).take k)) (sep (blk p (.cells #[.map (some b)] 63 (0, 0))) (sep (bmap b f n) (sep (kn J) (sep (osl 3 1 a m c (ks.map iv)) A)))))) (fun _ kv _ => m - (intOf kv).toNat)
  case atStart => exact ⟨0, Nat.zero_le _, rfl, none, 0, rfl, by simpa using h2⟩
  case round =>
    clear h2
    obtain ⟨k, hk, rfl, a2, c2, rfl, hS⟩ := hrel
    by_cases hkm : k < m
    · have hkl : k < ks.length := by rw [← HM.out]; exact hkm
      obtain ⟨x, hx⟩ : ∃ x, x = ks[k] := ⟨_, rfl⟩
      obtain ⟨g, rfl, hcc⟩ := (show Sat W wr (sep (osl 3 1 a m c (ks.map iv)) (sep (osl 22 1 a2 k c2 (((ks.map (comE M)).map uv).take k)) (sep (blk p (.cells #[.map (some b)] 63 (0, 0))) (sep (bmap b f n) (sep (kn J) A))))) by simpa only [sep_comm, sep_lcomm, sep_assoc] using hS).osl_at (fun e => by have := congrArg List.length e; simp at this; rw [this] at hkl; simp at hkl)
      have hc := hcc k (iv x) (by rw [List.getElem?_map, List.getElem?_eq_getElem hkl, hx]; rfl)
      unfold iv at hc
      have p0 : wr.cell? ⟨p, 0, none⟩ = some (.map (some b)) := hS.p1.cell 0
      have hlk := run_lookup_bmap (P := Try.prog) (T := 61) Try.underlying61 Try.underlying3 zeroEntry hS.p2 x false
      have hsome : (M x).isSome = true := (HMK.out.2 x).1 (by rw [hx]; exact List.getElem_mem _)
      obtain ⟨en, hen⟩ := Option.isSome_iff_exists.1 hsome
      obtain ⟨hbl, a0, c0', hfk, hrel⟩ := HSK.out.2 x en hen
      rw [hfk] at hlk
      obtain ⟨l, hl⟩ : ∃ l, l = en.b.length := ⟨_, rfl⟩
      rw [← hl] at hlk hrel
      have hlk2 : (Instr.lookup 61 (.map (some b)) (.int .i64 x) false).run Try.prog wr = .ok (.agg #[.slice a0 l c0', .int .u64 (en.s : Nat), .bool en.o]) wr := hlk
      have hce := commitE_spec a0 l c0' en.s en.o en.b (show Sat W wr (sep (kn J) (sep (osl 22 1 a2 k c2 (((ks.map (comE M)).map uv).take k)) (sep (blk p (.cells #[.map (some b)] 63 (0, 0))) (sep (bmap b f n) (sep (osl 3 1 (some ⟨g, 0, none⟩) m c (ks.map iv)) A))))) by simpa only [sep_comm, sep_lcomm, sep_assoc] using hS) hrel (by omega)
      unfold entV at hce
      have hcm : comE M x = commitN en.b en.s := by unfold comE; rw [hen]
      rw [← hcm] at hce
      obtain ⟨cm, hcm2⟩ : ∃ cm, cm = comE M x := ⟨_, rfl⟩
      rw [← hcm2] at hce
      obtain ⟨es, hes⟩ : ∃ es, es = en.s := ⟨_, rfl⟩
      obtain ⟨eo, heo⟩ : ∃ eo, eo = en.o := ⟨_, rfl⟩
      rw [← hes, ← heo] at hce hlk2
      have HX := Lib.hid hx
      have HCE := Lib.hid hce
      have HCM := Lib.hid hcm2
      have hkI : (k : Int) < m := by omega
      clear hS hcc hlk hsome hen hbl hfk hrel hl hce hcm hcm2 hx hes heo
      go_wp2_with fail
      refine HCE.out.mono ?_
      rintro e w3 ⟨rfl, h3⟩
      have hB := (show Sat W w3 (sep (osl 22 1 a2 k c2 (((ks.map (comE M)).map uv).take k)) (sep (kn J) (sep (blk p (.cells #[.map (some b)] 63 (0, 0))) (sep (bmap b f n) (sep (osl 3 1 (some ⟨g, 0, none⟩) m c (ks.map iv)) A))))) by simpa only [sep_comm, sep_lcomm, sep_assoc] using h3).alloc0 (.cells #[.int .u64 (cm : Nat)] 22)
      clear HCE h3 hlk2 p0 hc
      go_wp2_with (at_builtin; (refine wpl_append_osl rfl (.tmp 24) (.tmp 27) 30 rfl 22 1 8 (.int .u64 0) Try.underlying30 infoU64s rfl rfl hB rfl [.int .u64 (cm : Nat)] rfl (by simp) (by intro b hb; cases hb; exact new_src _ [_] _) (by simp [Value.oneCell']) (by omega) (by unfold maxLen; omega) ?_))
      intro a3 c3 w4 hS4
      go_wp2_with fail
      go_roundw
      case rel =>
        refine ⟨k + 1, by omega, by go_num, a3, c3, rfl, ?_⟩
        have e1 : ((ks.map (comE M)).map uv).take (k + 1) = ((ks.map (comE M)).map uv).take k ++ [.int .u64 (cm : Nat)] := by
          rw [List.take_succ_eq_append_getElem (by rw [List.length_map, List.length_map]; exact hkl), List.getElem_map, List.getElem_map, ← HX.out, ← HCM.out]; rfl
        rw [e1]
        simpa only [sep_comm, sep_lcomm, sep_assoc, List.map_map] using hS4
      case measure => simp [intOf]; omega
    · obtain rfl : k = m := by omega
      have hkI : ¬ (k : Int) < k := by omega
      have HS := Lib.hid hS
      clear hS
      go_wp2_with fail
      go_ret
      refine ⟨a2, c2, ks, by rw [← HM.out]; rfl, HMK.out, by rw [← HM.out]; exact HL.out, ?_⟩
      have h5 := HS.out
      rw [List.take_of_length_le (by rw [List.length_map, List.length_map, ← HM.out]; exact Nat.le_refl _)] at h5
      have h6 := isBox_unknow HN.out HSK.out (show Sat W wr (sep (blk p (.cells #[.map (some b)] 63 (0, 0))) (sep (bmap b f n) (sep (kn J) (sep (osl 22 1 a2 k c2 ((ks.map (comE M)).map uv)) A)))) by
        have := (show Sat W wr (sep (osl 3 1 a k c (ks.map iv)) (sep (osl 22 1 a2 k c2 ((ks.map (comE M)).map uv)) (sep (blk p (.cells #[.map (some b)] 63 (0, 0))) (sep (bmap b f n) (sep (kn J) A))))) by simpa only [sep_comm, sep_lcomm, sep_assoc] using h5).forget_osl
        simpa only [sep_comm, sep_lcomm, sep_assoc] using this)
      rw [← HM.out]
      simpa only [sep_comm, sep_lcomm, sep_assoc, List.map_map] using h6
end Go.Proofs.Ytcnonbhhlbplpaa
