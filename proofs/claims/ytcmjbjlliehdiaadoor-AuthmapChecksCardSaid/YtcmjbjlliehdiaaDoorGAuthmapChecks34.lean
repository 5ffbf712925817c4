/- Package authmap: outside, as an iterator that may be stopped. -/
import Derived.Laws.EntriesVeiled
import Derived.Test.YtcmjbjlliehdiaaDoorGAuthmapChecksSQ8s
import Derived.Test.YtcmjbjlliehdiaaDoorGAuthmapChecks15
import Derived.Test.YtcmjbjlliehdiaaDoorGAuthmapChecks5
import Derived.WideKeyEntry
import Derived.Test.YtcmjbjlliehdiaaDoorGAuthmapChecks8
import Derived.Test.YtcmjbjlliehdiaaDoorGAuthmapChecks24
import Derived.Test.YtcmjbjlliehdiaaDoorGAuthmapChecks10
import Derived.Test.YtcmjbjlliehdiaaDoorGAuthmapChecks11
import Derived.Laws.IdiomStrings
namespace Go.Proofs.YtcmjbjlliehdiaaDoor
open Go.RowKit PA
attribute [local go_sem] Oper.semAt_some
theorem awalkS {W : World} (R Z : List (Nat × Int) → Assn) (a b : Int) (lp ba bb yb wb N : Nat) (hY : ∀ m, TakesS Fence.wide m Tryd.prog W lp encB noB N R Z) :
    ∀ (l : Nat) (A : Assn) (n : Int), inT l n → ∀ (pre : List (Nat × Int)) (w : World), pre.length + (outL a b l n).length ≤ N → Sat W w (sep (R pre) (sep (wenv a b lp ba bb yb wb) A)) →
      Calls Tryd.prog 87 #[bkv (l, n), .pointer (some ⟨ba, 0, none⟩), .pointer (some ⟨bb, 0, none⟩), .pointer (some ⟨yb, 0, none⟩), .pointer (some ⟨wb, 0, none⟩)] w (WPost W R Z pre (outL a b l n) (sep (wenv a b lp ba bb yb wb) A)) := by
  intro l
  induction l with
  | zero =>
    intro A n hT pre w hlen h0
    by_cases ho : bLast (0, n) < a ∨ b < bFirst (0, n)
    · rw [outL_out ho] at hlen ⊢
      have hl : pre.length < N := by simp at hlen; omega
      by_cases h1 : bLast (0, n) < a
      · exact callsIn_wide.1 (awalkS_out1 R Z a b lp ba bb yb wb N hY 0 n hT pre w hl h1 h0)
      · exact callsIn_wide.1 (awalkS_out2 R Z a b lp ba bb yb wb N hY 0 n hT pre w hl h1 (ho.resolve_left h1) h0)
    · have hi := bzero ho
      rw [outL_in ho hi]
      exact callsIn_wide.1 (awalkS_in R Z a b lp ba bb yb wb N 0 n hT pre w (fun h => ho (.inl h)) (fun h => ho (.inr h)) hi.1 hi.2 h0)
  | succ l ih =>
    intro A n hT pre w hlen h0
    by_cases ho : bLast (l + 1, n) < a ∨ b < bFirst (l + 1, n)
    · rw [outL_out ho] at hlen ⊢
      have hl : pre.length < N := by simp at hlen; omega
      by_cases h1 : bLast (l + 1, n) < a
      · exact callsIn_wide.1 (awalkS_out1 R Z a b lp ba bb yb wb N hY (l + 1) n hT pre w hl h1 h0)
      · exact callsIn_wide.1 (awalkS_out2 R Z a b lp ba bb yb wb N hY (l + 1) n hT pre w hl h1 (ho.resolve_left h1) h0)
    · by_cases hi : a ≤ bFirst (l + 1, n) ∧ bLast (l + 1, n) ≤ b
      · rw [outL_in ho hi]
        exact callsIn_wide.1 (awalkS_in R Z a b lp ba bb yb wb N (l + 1) n hT pre w (fun h => ho (.inl h)) (fun h => ho (.inr h)) hi.1 hi.2 h0)
      · by_cases hi1 : a ≤ bFirst (l + 1, n)
        · exact callsIn_wide.1 (awalkS_half2 R Z a b lp ba bb yb wb N l ih n hT pre w hlen ho hi hi1 h0)
        · exact callsIn_wide.1 (awalkS_half1 R Z a b lp ba bb yb wb N l ih n hT pre w hlen ho hi hi1 h0)
set_option maxRecDepth 100000 in
set_option maxHeartbeats 4000000 in
theorem outside1_givesS {W : World} {A : Assn} (hw : WholeOK W) (n : Nat) (a b : Int) (ba bb : Nat) :
    GivesS Fence.wide n Tryd.prog W 86 #[.pointer (some ⟨ba, 0, none⟩), .pointer (some ⟨bb, 0, none⟩)] encB noB 4096 (fun xs => xs = outL a b 12 0) (fun xs => ∃ ys, xs ++ ys = outL a b 12 0)
      (sep (blk ba (.cells #[.int .i64 a] 3 (0, 0))) (sep (blk bb (.cells #[.int .i64 b] 3 (0, 0))) A)) A := by
  intro lp R Z w hY h0
  have hY' : ∀ m, TakesS Fence.wide m Tryd.prog W lp encB noB 4096 R Z := fun m pre x w B h1 h2 => yieldAt_any (hY pre x w B h1 h2)
  obtain ⟨y, hy⟩ : ∃ y, y = w.heap.size := ⟨_, rfl⟩
  obtain ⟨w1, hw1⟩ : ∃ w1, w1 = ((w.alloc (.cells #[.func (.yield lp) #[] #[]] 150)).alloc (.cells #[.func (.func 87) #[] #[.pointer (some ⟨ba, 0, none⟩), .pointer (some ⟨bb, 0, none⟩), .pointer (some ⟨y, 0, none⟩), .pointer (some ⟨y + 1, 0, none⟩)]] 150)) := ⟨_, rfl⟩
  have h1 : Sat W w1 (sep (R []) (sep (wenv a b lp ba bb y (y + 1)) A)) := by
    have h2 := (h0.alloc (.cells #[.func (.yield lp) #[] #[]] 150)).alloc (.cells #[.func (.func 87) #[] #[.pointer (some ⟨ba, 0, none⟩), .pointer (some ⟨bb, 0, none⟩), .pointer (some ⟨y, 0, none⟩), .pointer (some ⟨y + 1, 0, none⟩)]] 150)
    rw [World.size_alloc, ← hy, ← hw1] at h2
    unfold wenv
    simpa only [sep_comm, sep_lcomm, sep_assoc] using h2
  have hwk := awalkS R Z a b lp ba bb y (y + 1) 4096 hY' 12 A 0 inT_top [] w1 (by have := outL_top a b; simpa using this) h1
  obtain ⟨e0, e1, e2, e3⟩ := wenv_at (B := emp) (C := R []) (by rw [emp_sep]; exact h1)
  obtain ⟨q0, q1⟩ := hw.now h1
  have HWK := Lib.hid hwk
  have HY := Lib.hid (And.intro hy hw1)
  have hmf : ∀ (fn : Fn) (first cap : Array Value) (w : World), (Instr.makeFunc fn first cap).run Tryd.prog w = .ok (.func fn first cap) w := fun _ _ _ _ => rfl
  clear hY hY' h0 h1 hwk hy hw1 hw
  refine callsIn_of_wp Tryd.func86 rfl trivial ?_ rfl
  simp only [Tryd.ntmps86, List.size_toArray, List.length_cons, List.length_nil, Nat.reduceAdd, Nat.reduceSub, Array.replicate_succ, Array.replicate_zero, List.push_toArray, List.append_toArray, List.nil_append, List.cons_append]
  gi_upto_region 3 with (fail)
  rw [← HY.out.1, ← HY.out.2]
  have HWK2 : Hid (Calls Tryd.prog 87 #[.agg #[.int .i64 12, .int .i64 0], .pointer (some ⟨ba, 0, none⟩), .pointer (some ⟨bb, 0, none⟩), .pointer (some ⟨y, 0, none⟩), .pointer (some ⟨y + 1, 0, none⟩)] w1 (WPost W R Z [] (outL a b 12 0) (sep (wenv a b lp ba bb y (y + 1)) A))) := HWK
  clear HWK
  gi_wp2_with fail
  refine ⟨trivial, fun hd => (by cases hd), (callsIn_wide.2 HWK2.out).mono ?_⟩
  rintro e w2 (⟨rfl, h2⟩ | ⟨rfl, zs, rest, hzs, h2⟩)
  · clear HWK2 e0 e1 e2 e3 q0 q1
    gi_wp2_with fail
    refine bodyPost_end (results_none rfl _ _ _) rfl ⟨⟨_, rfl⟩, .inl ⟨_, rfl, ?_⟩⟩
    rw [List.nil_append] at h2
    have h3 := h2.p1
    unfold wenv at h3
    simp only [sep_assoc] at h3
    have h4 := h3.drop.drop.drop.drop
    simpa only [sep_comm, sep_lcomm, sep_assoc] using h4
  · have HZS := Lib.hid hzs
    clear HWK2 e0 e1 e2 e3 q0 q1 hzs
    gi_wp2_with fail
    refine bodyPost_end (results_none rfl _ _ _) rfl ⟨⟨_, rfl⟩, .inr ⟨zs, ⟨rest, HZS.out⟩, ?_⟩⟩
    rw [List.nil_append] at h2
    have h3 := h2.p1
    unfold wenv at h3
    simp only [sep_assoc] at h3
    have h4 := h3.drop.drop.drop.drop
    simpa only [sep_comm, sep_lcomm, sep_assoc] using h4
end Go.Proofs.YtcmjbjlliehdiaaDoor
/- Owned maps with any keys: 'm[k], .. = v, ..' where the key is there: the entry, then its store. Plain Lean, no program in sight. -/
namespace PA
open Go Go.RowKit
section
variable {κ : Type} {enc : κ → Value} {P : Program} {W w : World} {A : Assn}
theorem run_entry_gmap {T K E : TypeId} (hT : P.underlying T = some (.map K E)) (hK : GKey P K enc) {b : Nat} {f : κ → Option Value} {n : Nat} (h : Sat W w (sep (gmap enc b f n) A)) (k : κ) {v0 : Value} (hf : f k = some v0) :
    ∃ (st : Int) (w1 : World) (X : Assn), (Instr.mapEntry T (.map (some b)) (enc k)).run P w = .ok (.tuple #[v0, .int .i64 st]) w1 ∧ Sat W w1 (sep X A) ∧
      ∀ (w2 : World) (B : Assn) (v : Value), Sat W w2 (sep X B) → ∃ w3, (Instr.entryStore T (.map (some b)) (.int .i64 st) v).run P w2 = .ok () w3 ∧ Sat W w3 (sep (gmap enc b (gset f k (some v)) n) B) := by
  obtain ⟨es, clock, h1, h2, hb, h3⟩ := h.gmap_open
  have hg := run_getObj_map (P := P) h3.blk_heap
  rcases hK.find w k es.toList h1.keys with ⟨e1, e2⟩ | ⟨j, e, e1, e2, e3⟩
  · rw [h1.isNo e2] at hf; cases hf
  · have hv : e.val = v0 := by
      have := h1.isSo (List.mem_of_getElem? e2) e3
      rw [this] at hf
      simpa using hf
    have hj : es[j]? = some e := by simpa using e2
    have hsame : es.modify j (fun x => { x with key := enc k }) = es := by
      apply Array.ext'
      rw [Array.toList_modify]
      apply List.ext_getElem?
      intro i
      rw [List.getElem?_modify]
      by_cases hi : j = i
      · subst hi
        rw [e2]
        simp [← e3]
      · simp [hi]
    refine ⟨(e.born : Int), _, blk b (.map es clock), ?_, (h3.setObj (.map es clock)), fun w2 B v hw2 => ?_⟩
    · simp [Instr.mapEntry, run_underlying hT, hg, hK.check, e1, hj, e3, hK.stays, hsame, run_setObj_map (P := P) h3.blk_heap, goInt, hv]
    · have hg2 := run_getObj_map (P := P) hw2.blk_heap
      have hidx : es.findIdx? (fun x => ((x.born : Nat) : Int) == ((e.born : Nat) : Int)) = some j := by
        have hsz : j < es.size := (Array.getElem?_eq_some_iff.1 hj).1
        have hje : es[j] = e := (Array.getElem?_eq_some_iff.1 hj).2
        rw [Array.findIdx?_eq_some_iff_getElem]
        refine ⟨hsz, by simp [hje], fun i hi => ?_⟩
        have hp := List.pairwise_iff_getElem.1 (List.pairwise_map.1 hb.nodup) i j (by rw [Array.length_toList]; omega) (by rw [Array.length_toList]; exact hsz) hi
        simp only [Array.getElem_toList] at hp
        rw [hje] at hp
        simp only [beq_iff_eq]
        intro hq
        exact hp (by omega)
      refine ⟨_, by simp [Instr.entryStore, hg2, asInt, asIntOf, hidx, run_setObj_map (P := P) hw2.blk_heap]; rfl, (hw2.setObj _).gmap_mk ?_ (by simp [h2]) ?_⟩
      · have := h1.modify hK.inj k v e2 e3
        have he : (es.modify j fun x => { x with val := v }).toList = es.toList.modify j fun x => { x with key := enc k, val := v } := by
          rw [Array.toList_modify]
          apply List.ext_getElem?
          intro i
          rw [List.getElem?_modify, List.getElem?_modify]
          by_cases hi : j = i
          · subst hi
            rw [e2]
            simp [← e3]
          · simp [hi]
        rw [he]
        exact this
      · have := hb.modify j (enc k) v
        have he : (es.modify j fun x => { x with val := v }).toList = es.toList.modify j fun x => { x with key := enc k, val := v } := by
          rw [Array.toList_modify]
          apply List.ext_getElem?
          intro i
          rw [List.getElem?_modify, List.getElem?_modify]
          by_cases hi : j = i
          · subst hi
            rw [e2]
            simp [← e3]
          · simp [hi]
        rw [he]
        exact this
end
end PA
/- Package wire: the writer. -/
namespace Go.Proofs.YtcmjbjlliehdiaaDoor
open Go.RowKit PA
theorem infoU8w : (Tryd.prog.info? 5).map (fun i => (i.zero, i.size, i.bytes)) = some (some (.int .u8 0), 1, 1) := by kernel_rfl
def isWr (p : Nat) (bs : List UInt8) : Assn := ex fun a : Option Addr => ex fun n : Nat => ex fun c : Nat => sep (blk p (.cells #[.slice a n c] 120 (0, 0))) (osl 5 1 a n c (bs.map bv))
theorem isWr_open {W w : World} {A : Assn} {p : Nat} {bs : List UInt8} (h : Sat W w (sep (isWr p bs) A)) : ∃ a n c, n = bs.length ∧ Sat W w (sep (blk p (.cells #[.slice a n c] 120 (0, 0))) (sep (osl 5 1 a n c (bs.map bv)) A)) := by
  simp only [isWr, ex_sep, Sat.ex, sep_assoc] at h
  obtain ⟨a, n, c, h⟩ := h
  have := h.p1.osl_len.1
  exact ⟨a, n, c, by simpa using this.symm, h⟩
theorem isWr_mk {W w : World} {A : Assn} {p : Nat} {bs : List UInt8} {a : Option Addr} {n c : Nat} (h : Sat W w (sep (blk p (.cells #[.slice a n c] 120 (0, 0))) (sep (osl 5 1 a n c (bs.map bv)) A))) : Sat W w (sep (isWr p bs) A) := by
  simp only [isWr, ex_sep, Sat.ex, sep_assoc]
  exact ⟨a, n, c, h⟩
set_option maxHeartbeats 1000000 in
theorem wuint_spec {W w : World} {A : Assn} (p : Nat) (bs : List UInt8) (x : Nat) (hx : x < 18446744073709551616) (h : Sat W w (sep (isWr p bs) A)) (hb : bs.length ≤ 1073741824) :
    Calls Tryd.prog 64 #[.pointer (some ⟨p, 0, none⟩), .int .u64 (x : Nat)] w fun e w' => e = .returned (.tuple #[]) ∧ Sat W w' (sep (isWr p (bs ++ Lib.uvarint x)) A) := by
  have HX := Lib.hid hx
  have HB := Lib.hid hb
  clear hx hb
  go_enter Tryd.func64, Tryd.ntmps64
  go_wp2_with fail
  go_loopw [1] (fun nv wr => ∃ (y : Nat) (pre : List UInt8), nv = .int .u64 (y : Nat) ∧ Hid (y < 18446744073709551616 ∧ pre ++ Lib.uvarint y = Lib.uvarint x) ∧ Sat W wr (sep (isWr p (bs ++ pre)) A)) (fun nv _ => (intOf nv).toNat)
  case atStart => exact ⟨x, [], rfl, Lib.hid ⟨HX.out, rfl⟩, by simpa using h⟩
  case round =>
    clear h
    obtain ⟨y, pre, rfl, HY, hS⟩ := hrel
    have hpl : pre.length ≤ 10 := by
      have := congrArg List.length HY.out.2
      have := Lib.uvarint_length64 HX.out
      simp at *; omega
    obtain ⟨a, n, c, hn, h1⟩ := isWr_open hS
    have hnb : n ≤ 1073741834 := by rw [hn, List.length_append]; have := HB.out; omega
    have HN := Lib.hid hnb
    have c1 : wr.cell? ⟨p, 0, none⟩ = some (.slice a n c) := h1.cell 0
    obtain ⟨vs, hvs⟩ : ∃ vs, vs = (bs ++ pre).map bv := ⟨_, rfl⟩
    rw [← hvs] at h1
    have HVS := Lib.hid hvs
    have hS' := h1.p1
    clear hn hpl hnb hS hvs
    by_cases hy : 128 ≤ y
    · have hyI : (128 : Int) ≤ (y : Int) := by omega
      obtain ⟨z, hz⟩ : ∃ z : UInt8, z = (y % 128 + 128).toUInt8 := ⟨_, rfl⟩
      have hor : bits BinOp.or IntKind.u8 ((y : Int) % 256) 128 = (z.toNat : Int) := by
        rw [Lib.u8_or128_any _ (by omega) (by omega), hz]
        simp; omega
      have hB := (hS'.alloc0 (.cells #[.int .u8 (z.toNat : Int)] 5))
      have HZ := Lib.hid hz
      clear hz h1 hS'
      go_wp2_with (at_builtin; (refine wpl_append_osl rfl (.tmp 12) (.tmp 16) 32 rfl 5 1 1 (.int .u8 0) Tryd.underlying32 infoU8w rfl rfl hB rfl [.int .u8 (z.toNat : Int)] rfl (by simp) (by intro b hb; cases hb; exact new_src _ [_] _) (by simp [Value.oneCell']) (by have := HN.out; omega) (by have := HN.out; unfold maxLen; omega) ?_))
      intro a2 c2 w2 h2
      have h3 := h2.p1
      have c2' : w2.cell? ⟨p, 0, none⟩ = some (.slice a n c) := h3.cell 0
      have f2' : w2.frozen? ⟨p, 0, none⟩ = false := h3.unfrozen 0
      have h4 : Sat W (w2.setCell ⟨p, 0, none⟩ (.slice a2 (n + 1) c2)) (sep (blk p (.cells #[.slice a2 (n + 1) c2] 120 (0, 0))) (sep (osl 5 1 a2 (n + 1) c2 (vs ++ [.int .u8 (z.toNat : Int)])) A)) := h3.setCell 0 _
      clear hB h2 h3 c1
      go_wp2_with fail
      go_roundw
      case rel =>
        refine ⟨y / 128, pre ++ [z], by go_num, Lib.hid ⟨by have := HY.out.1; omega, ?_⟩, isWr_mk (a := a2) (n := n + 1) (c := c2) ?_⟩
        · rw [List.append_assoc, ← HY.out.2, Lib.uvarint_big hy, ← HZ.out]; rfl
        · rw [← List.append_assoc, List.map_append, ← HVS.out]; exact h4
      case measure => simp [intOf]; omega
    · have hyB : decide ((128 : Int) ≤ (y : Int)) = false := by simp; omega
      have HY128 := Lib.hid hy
      obtain ⟨z, hz⟩ : ∃ z : UInt8, z = y.toUInt8 := ⟨_, rfl⟩
      have hzy : z.toNat = y := by
        rw [hz]; simp; omega
      have hor : ((y : Int) % 256) = (z.toNat : Int) := by omega
      have hB := (hS'.alloc0 (.cells #[.int .u8 (z.toNat : Int)] 5))
      have HZ := Lib.hid hz
      clear hz h1 hS' hzy hy
      go_wp2_with (at_builtin; (refine wpl_append_osl rfl (.tmp 24) (.tmp 27) 32 rfl 5 1 1 (.int .u8 0) Tryd.underlying32 infoU8w rfl rfl hB rfl [.int .u8 (z.toNat : Int)] rfl (by simp) (by intro b hb; cases hb; exact new_src _ [_] _) (by simp [Value.oneCell']) (by have := HN.out; omega) (by have := HN.out; unfold maxLen; omega) ?_))
      intro a2 c2 w2 h2
      have h3 := h2.p1
      have c2' : w2.cell? ⟨p, 0, none⟩ = some (.slice a n c) := h3.cell 0
      have f2' : w2.frozen? ⟨p, 0, none⟩ = false := h3.unfrozen 0
      have h4 : Sat W (w2.setCell ⟨p, 0, none⟩ (.slice a2 (n + 1) c2)) (sep (blk p (.cells #[.slice a2 (n + 1) c2] 120 (0, 0))) (sep (osl 5 1 a2 (n + 1) c2 (vs ++ [.int .u8 (z.toNat : Int)])) A)) := h3.setCell 0 _
      clear hB h2 h3 c1
      go_wp2_with fail
      go_end0
      refine ⟨rfl, isWr_mk (a := a2) (n := n + 1) (c := c2) ?_⟩
      rw [← HY.out.2, Lib.uvarint_small (by have := HY128.out; omega), ← HZ.out, ← List.append_assoc, List.map_append, ← HVS.out, List.map_cons, List.map_nil, bv]; exact h4
end Go.Proofs.YtcmjbjlliehdiaaDoor
/- Package wire: zigzag, Int, Text, Raw, Done; the reference's Uint, Int, Raw. -/
namespace Go.Proofs.YtcmjbjlliehdiaaDoor
open Go.RowKit PA
theorem zigzag_spec (n : Int) (w : World) (h1 : -9223372036854775808 ≤ n) (h2 : n ≤ 9223372036854775807) : Calls Tryd.prog 93 #[.int .i64 n] w fun e w' => e = .returned (.int .u64 (Lib.zigzag n : Nat)) ∧ w = w' := by
  go_enter Tryd.func93, Tryd.ntmps93
  go_wp2
  go_ret
  exact ⟨ret_int (zz_val n h1 h2), rfl⟩
theorem rzigzag_spec (n : Int) (w : World) (h1 : -9223372036854775808 ≤ n) (h2 : n ≤ 9223372036854775807) : Calls Tryd.prog 96 #[.int .i64 n] w fun e w' => e = .returned (.int .u64 (Lib.zigzag n : Nat)) ∧ w = w' := by
  by_cases h0 : n < 0
  · go_enter Tryd.func96, Tryd.ntmps96
    go_wp2
    go_ret
    exact ⟨ret_int (by show 2 * -(n + 1) + 1 = _; unfold Lib.zigzag; rw [if_neg (by omega)]; omega), rfl⟩
  · go_enter Tryd.func96, Tryd.ntmps96
    go_wp2
    go_ret
    exact ⟨ret_int (by show 2 * n = _; unfold Lib.zigzag; rw [if_pos (by omega)]; omega), rfl⟩
theorem unzigzag_spec (z : Nat) (w : World) (h1 : z < 18446744073709551616) : Calls Tryd.prog 94 #[.int .u64 z] w fun e w' => e = .returned (.int .i64 (unz z)) ∧ w = w' := by
  go_enter Tryd.func94, Tryd.ntmps94
  go_wp2
  go_ret
  exact ⟨ret_int (unz_val z h1), rfl⟩
theorem wint_spec {W w : World} {A : Assn} (p : Nat) (bs : List UInt8) (n : Int) (h1 : -9223372036854775808 ≤ n) (h2 : n ≤ 9223372036854775807) (h : Sat W w (sep (isWr p bs) A)) (hb : bs.length ≤ 1073741824) :
    Calls Tryd.prog 63 #[.pointer (some ⟨p, 0, none⟩), .int .i64 n] w fun e w' => e = .returned (.tuple #[]) ∧ Sat W w' (sep (isWr p (bs ++ PA.encI n)) A) := by
  have hz := Lib.zigzag_lt h1 h2
  have HZ := Lib.hid hz
  have HB := Lib.hid hb
  clear hz hb
  go_enter Tryd.func63, Tryd.ntmps63
  go_wp2_with fail
  refine (zigzag_spec n _ h1 h2).mono ?_
  rintro e w2 ⟨rfl, rfl⟩
  go_wp2_with fail
  refine (wuint_spec p bs (Lib.zigzag n) HZ.out h HB.out).mono ?_
  rintro e w3 ⟨rfl, hS⟩
  go_wp2_with fail
  go_end0
  exact ⟨rfl, hS⟩
set_option maxHeartbeats 1000000 in
theorem wtext_spec {W w : World} {A : Assn} (p : Nat) (bs : List UInt8) (s : ByteArray) (h : Sat W w (sep (isWr p bs) A)) (hb : bs.length ≤ 1073741800) (hs : s.size ≤ 1073741824) :
    Calls Tryd.prog 92 #[.pointer (some ⟨p, 0, none⟩), .string s] w fun e w' => e = .returned (.tuple #[]) ∧ Sat W w' (sep (isWr p (bs ++ encR s.data.toList)) A) := by
  have hw1 : IntKind.u64.wrap (s.size : Int) = (s.size : Nat) := wraps_u64 _ (by omega) (by omega)
  have HB := Lib.hid hb
  have HS := Lib.hid hs
  clear hb hs
  go_enter Tryd.func92, Tryd.ntmps92
  go_wp2_with fail
  refine (wuint_spec p bs s.size (by have := HS.out; omega) h (by have := HB.out; omega)).mono ?_
  rintro e w3 ⟨rfl, hS⟩
  obtain ⟨a, n, c, hn, h3⟩ := isWr_open hS
  have hul := Lib.uvarint_length64 (x := s.size) (by have := HS.out; omega)
  have hnb : n ≤ 1073741900 := by rw [hn, List.length_append]; have := HB.out; omega
  obtain ⟨vs, hvs⟩ : ∃ vs, vs = (bs ++ Lib.uvarint s.size).map bv := ⟨_, rfl⟩
  rw [← hvs] at h3
  have c1 : w3.cell? ⟨p, 0, none⟩ = some (.slice a n c) := h3.cell 0
  have f1 : w3.frozen? ⟨p, 0, none⟩ = false := h3.unfrozen 0
  have hB := h3.p1
  have HN := Lib.hid hnb
  have HVS := Lib.hid hvs
  clear hn hul hnb hvs h h3 hS hw1
  go_wp2_with (at_builtin; (refine wpl_append_osl_str rfl (.tmp 13) (.tmp 14) 32 9 rfl 5 Tryd.underlying32 Tryd.underlying9 infoU8w rfl hB s rfl (by have := HN.out; have := HS.out; omega) ?_))
  intro a2 c2 w4 h4
  have h5 := h4.p1
  have c2' : w4.cell? ⟨p, 0, none⟩ = some (.slice a n c) := h5.cell 0
  have f2' : w4.frozen? ⟨p, 0, none⟩ = false := h5.unfrozen 0
  have h6 : Sat W (w4.setCell ⟨p, 0, none⟩ (.slice a2 (n + s.size) c2)) (sep (blk p (.cells #[.slice a2 (n + s.size) c2] 120 (0, 0))) (sep (osl 5 1 a2 (n + s.size) c2 (vs ++ s.data.toList.map bv)) A)) := h5.setCell 0 _
  clear hB h4 h5 c1 f1
  go_wp2_with fail
  go_end0
  refine ⟨rfl, isWr_mk (a := a2) (n := n + s.size) (c := c2) ?_⟩
  rw [encR, show s.data.toList.length = s.size by simp, ← List.append_assoc, List.map_append, ← HVS.out]
  exact h6
theorem wdone_spec {W w : World} {A : Assn} (p : Nat) (bs : List UInt8) (h : Sat W w (sep (isWr p bs) A)) (hb : bs.length ≤ 1073742900) :
    Calls Tryd.prog 65 #[.pointer (some ⟨p, 0, none⟩)] w fun e w' => ∃ a c, e = .returned (.slice a bs.length c) ∧ Sat W w' (sep (osl 5 1 a bs.length c (bs.map bv)) (sep (isWr p bs) A)) := by
  obtain ⟨a, n, c, hn, h1⟩ := isWr_open h
  have c1 : w.cell? ⟨p, 0, none⟩ = some (.slice a n c) := h1.cell 0
  have hsw := h1.p1.swf_of_osl
  have hsrc := h1.p1.osl_src
  rw [← hn] at hb ⊢
  have hcl := clone_any a n c (bs.map bv) h1 hsrc (by rw [List.length_map, hn]) hsw (bv_one bs) (by omega)
  have HCL := Lib.hid hcl
  clear h h1 hn hsw hsrc hcl hb
  go_enter Tryd.func65, Tryd.ntmps65
  go_wp2_with fail
  refine HCL.out.mono ?_
  rintro e w2 ⟨a2, c2, rfl, hS⟩
  clear c1
  go_wp2_with fail
  go_ret
  refine ⟨a2, c2, rfl, ?_⟩
  have h2 := isWr_mk (a := a) (n := n) (c := c) (p := p) (bs := bs) (A := sep (osl 5 1 a2 n c2 (bs.map bv)) A) (by simpa only [sep_comm, sep_lcomm, sep_assoc] using hS)
  exact h2.p1
set_option maxHeartbeats 1000000 in
theorem wraw_spec {W w : World} {A : Assn} {I : Mem} (p : Nat) (bs : List UInt8) (v : Value) (b : List UInt8) (h : Sat W w (sep (isWr p bs) (sep (kn I) A))) (hv : rBytes.rel I [v] b) (hb : bs.length ≤ 1073741800) (hs : b.length ≤ 1073741824) :
    Calls Tryd.prog 62 #[.pointer (some ⟨p, 0, none⟩), v] w fun e w' => e = .returned (.tuple #[]) ∧ Sat W w' (sep (isWr p (bs ++ encR b)) (sep (kn I) A)) := by
  obtain ⟨a, c, rfl, hsw, hc⟩ := bytes_rel.1 hv
  have hsrc := src_ext hc h.p1.ext
  obtain ⟨s, hsd⟩ : ∃ s : ByteArray, s = ⟨b.toArray⟩ := ⟨_, rfl⟩
  have hsl : s.data.toList = b := by rw [hsd]
  have hss : s.size = b.length := by rw [hsd]; simp [ByteArray.size]
  have hconv : (convert 32 9 (.slice a b.length c)).run Tryd.prog w = .ok (.string s) w := by
    cases a with
    | none =>
      have hc0 := hsw.2.2 rfl
      have hb0 : b = [] := List.eq_nil_of_length_eq_zero (by have := hsw.1; omega)
      subst hb0
      rw [hsd]
      simp [convert, run_underlying Tryd.underlying32, run_underlying Tryd.underlying9, run_underlying Tryd.underlying5, Conv.bytesToString]
      rfl
    | some ad =>
      have := run_convert_bytes_back (P := Tryd.prog) w 32 9 5 ad c b Tryd.underlying32 Tryd.underlying5 Tryd.underlying9 (fun j hj => hsrc ad rfl j _ (by rw [List.getElem?_map, List.getElem?_eq_getElem hj]; rfl))
      rw [hsd]; exact this
  have htx := wtext_spec p bs s h hb (by rw [hss]; exact hs)
  rw [hsl] at htx
  have HT := Lib.hid htx
  obtain ⟨n0, hn0⟩ : ∃ n0, n0 = b.length := ⟨_, rfl⟩
  rw [← hn0] at hconv ⊢
  clear htx hv hsw hc hsrc hsd hsl hss hn0 hb hs h
  go_enter Tryd.func62, Tryd.ntmps62
  go_wp2_with fail
  refine HT.out.mono ?_
  rintro e w3 ⟨rfl, hS⟩
  go_wp2_with fail
  go_end0
  exact ⟨rfl, hS⟩
end Go.Proofs.YtcmjbjlliehdiaaDoor
/- The reference's Uint, Int, Raw. -/
namespace Go.Proofs.YtcmjbjlliehdiaaDoor
open Go.RowKit PA
set_option maxHeartbeats 1000000 in
theorem ruint_spec {W w : World} {A : Assn} (x : Nat) (hx : x < 18446744073709551616) (h : Sat W w A) :
    Calls Tryd.prog 71 #[.int .u64 (x : Nat)] w fun e w' => ∃ a c, e = .returned (.slice a (Lib.uvarint x).length c) ∧ Sat W w' (sep (osl 5 1 a (Lib.uvarint x).length c ((Lib.uvarint x).map bv)) A) := by
  have HX := Lib.hid hx
  clear hx
  go_enter Tryd.func71, Tryd.ntmps71
  go_wp2_with fail
  go_loopw [0, 3] (fun nv ov wr => ∃ (y : Nat) (pre : List UInt8) (a : Option Addr) (n c : Nat) (vs : List Value), nv = .int .u64 (y : Nat) ∧ ov = .slice a n c ∧ Hid (vs = pre.map bv ∧ n = pre.length ∧ y < 18446744073709551616 ∧ pre ++ Lib.uvarint y = Lib.uvarint x) ∧ Sat W wr (sep (osl 5 1 a n c vs) A)) (fun nv _ _ => (intOf nv).toNat)
  case atStart => exact ⟨x, [], none, 0, 0, [], rfl, rfl, Lib.hid ⟨rfl, rfl, HX.out, rfl⟩, h.osl_nil _ _⟩
  case round =>
    clear h
    obtain ⟨y, pre, a, n, c, vs, rfl, rfl, HY, hS⟩ := hrel
    have hnb : n ≤ 10 := by
      have h1 := congrArg List.length HY.out.2.2.2
      have h2 := Lib.uvarint_length64 HX.out
      rw [HY.out.2.1]; simp at h1; omega
    have HN := Lib.hid hnb
    clear hnb
    by_cases hy : 127 < y
    · have hyI : (127 : Int) < (y : Int) := by omega
      obtain ⟨z, hz⟩ : ∃ z : UInt8, z = (y % 128 + 128).toUInt8 := ⟨_, rfl⟩
      have hzv : z.toNat = y % 128 + 128 := by rw [hz]; simp; omega
      obtain ⟨q, hq⟩ : ∃ q : Nat, q = y / 128 := ⟨_, rfl⟩
      have hquo : IntKind.u64.wrap ((y : Int) / 128) = (q : Int) := by rw [wraps_u64 _ (by omega) (by have := HY.out.2.2.1; omega)]; omega
      have HQ := Lib.hid hq
      have hqy : q < y := by omega
      have hB := (hS.alloc0 (.cells #[.int .u8 (128 + (y : Int) % 128)] 5))
      clear hq
      have HZ := Lib.hid hz
      have HZV := Lib.hid hzv
      clear hz hzv hS
      go_wp2_with (at_builtin; (refine wpl_append_osl rfl (.tmp 6) (.tmp 11) 32 rfl 5 1 1 (.int .u8 0) Tryd.underlying32 infoU8w rfl rfl hB rfl [.int .u8 (128 + (y : Int) % 128)] rfl (by simp) (by intro b hb; cases hb; exact new_src _ [_] _) (by simp [Value.oneCell']) (by have := HN.out; omega) (by have := HN.out; unfold maxLen; omega) ?_))
      intro a2 c2 w2 h2
      clear hB
      go_wp2_with fail
      go_roundw
      case rel =>
        refine ⟨q, pre ++ [z], a2, n + 1, c2, _, rfl, rfl, Lib.hid ⟨rfl, ?_, by have := HY.out.2.2.1; omega, ?_⟩, ?_⟩
        · rw [List.length_append, HY.out.2.1]; rfl
        · rw [List.append_assoc, ← HY.out.2.2.2, Lib.uvarint_big (by omega : 128 ≤ y), ← HZ.out, ← HQ.out]; rfl
        · have e : (128 + (y : Int) % 128) = ((z.toNat : Nat) : Int) := by have := HZV.out; omega
          rw [e, HY.out.1] at h2
          rw [List.map_append, List.map_cons, List.map_nil, bv]; exact h2
      case measure => simp [intOf]; omega
    · have hyB : decide ((127 : Int) < (y : Int)) = false := by simp; omega
      have HY128 := Lib.hid hy
      obtain ⟨z, hz⟩ : ∃ z : UInt8, z = y.toUInt8 := ⟨_, rfl⟩
      have hzy : z.toNat = y := by
        rw [hz]; simp; omega
      have hor : ((y : Int) % 256) = (z.toNat : Int) := by omega
      have hB := (hS.alloc0 (.cells #[.int .u8 (z.toNat : Int)] 5))
      have HZ := Lib.hid hz
      clear hz hzy hy hS
      go_wp2_with (at_builtin; (refine wpl_append_osl rfl (.tmp 15) (.tmp 18) 32 rfl 5 1 1 (.int .u8 0) Tryd.underlying32 infoU8w rfl rfl hB rfl [.int .u8 (z.toNat : Int)] rfl (by simp) (by intro b hb; cases hb; exact new_src _ [_] _) (by simp [Value.oneCell']) (by have := HN.out; omega) (by have := HN.out; unfold maxLen; omega) ?_))
      intro a2 c2 w2 h2
      clear hB
      have e : Lib.uvarint x = pre ++ [z] := by rw [← HY.out.2.2.2, Lib.uvarint_small (by have := HY128.out; omega), ← HZ.out]
      have hl : n + 1 = (Lib.uvarint x).length := by rw [e, List.length_append, HY.out.2.1]; rfl
      have h3 : Sat W w2 (sep (osl 5 1 a2 (Lib.uvarint x).length c2 ((Lib.uvarint x).map bv)) A) := by
        rw [← hl, e, List.map_append, List.map_cons, List.map_nil, bv, ← HY.out.1]; exact h2
      have HL := Lib.hid hl
      clear e hl h2
      go_wp2_with fail
      go_ret
      exact ⟨a2, c2, by rw [← HL.out]; rfl, h3⟩
theorem rint_spec {W w : World} {A : Assn} (n : Int) (h1 : -9223372036854775808 ≤ n) (h2 : n ≤ 9223372036854775807) (h : Sat W w A) :
    Calls Tryd.prog 70 #[.int .i64 n] w fun e w' => ∃ a c, e = .returned (.slice a (PA.encI n).length c) ∧ Sat W w' (sep (osl 5 1 a (PA.encI n).length c ((PA.encI n).map bv)) A) := by
  have HZ := Lib.hid (Lib.zigzag_lt h1 h2)
  go_enter Tryd.func70, Tryd.ntmps70
  go_wp2_with fail
  refine (rzigzag_spec n _ h1 h2).mono ?_
  rintro e w2 ⟨rfl, rfl⟩
  go_wp2_with fail
  refine (ruint_spec (Lib.zigzag n) HZ.out h).mono ?_
  rintro e w3 ⟨a, c, rfl, hS⟩
  go_wp2_with fail
  go_ret
  exact ⟨a, c, rfl, hS⟩
theorem rraw_spec {W w : World} {A : Assn} {I : Mem} (v : Value) (b : List UInt8) (h : Sat W w (sep (kn I) A)) (hv : rBytes.rel I [v] b) (hb : b.length ≤ 1073741824) :
    Calls Tryd.prog 69 #[v] w fun e w' => ∃ a c, e = .returned (.slice a (encR b).length c) ∧ Sat W w' (sep (osl 5 1 a (encR b).length c ((encR b).map bv)) (sep (kn I) A)) := by
  obtain ⟨a, c, rfl, hsw, hc⟩ := bytes_rel.1 hv
  obtain ⟨n0, hn0⟩ : ∃ n0, n0 = b.length := ⟨_, rfl⟩
  rw [← hn0] at hb ⊢
  have hw1 : IntKind.u64.wrap (n0 : Int) = (n0 : Nat) := wraps_u64 _ (by omega) (by omega)
  have HC := Lib.hid hc
  have HN := Lib.hid hn0
  have HB := Lib.hid hb
  have HSW := Lib.hid hsw
  clear hc hn0 hb hsw hv
  go_enter Tryd.func69, Tryd.ntmps69
  go_wp2_with fail
  refine (ruint_spec n0 (by have := HB.out; omega) h).mono ?_
  rintro e w2 ⟨a1, c1, rfl, hS⟩
  have hsrc := src_ext HC.out hS.p1.ext
  obtain ⟨m, hm⟩ : ∃ m, m = (Lib.uvarint n0).length := ⟨_, rfl⟩
  obtain ⟨vs, hvs⟩ : ∃ vs, vs = (Lib.uvarint n0).map bv := ⟨_, rfl⟩
  have hmb : m ≤ 10 := by rw [hm]; exact Lib.uvarint_length64 (by have := HB.out; omega)
  rw [← hm, ← hvs] at hS
  rw [← hm]
  have HM := Lib.hid hm
  have HMB := Lib.hid hmb
  have HV := Lib.hid hvs
  have HSRC := Lib.hid hsrc
  clear hm hvs hmb hsrc h hw1
  go_wp2_with (at_builtin; (refine wpl_append_osl rfl (.tmp 6) (.tmp 7) 32 rfl 5 1 1 (.int .u8 0) Tryd.underlying32 infoU8w rfl rfl hS rfl (b.map bv) (by rw [List.length_map, HN.out, Nat.mul_one]) (fun e => by have := HSW.out.2.2 e; have := HSW.out.1; have := HN.out; omega) HSRC.out (bv_one b) (by have := HB.out; have := HMB.out; omega) (by have := HB.out; have := HMB.out; unfold maxLen; omega) ?_))
  intro a2 c2 w4 h4
  have hl : m + n0 = (encR b).length := by rw [encR, List.length_append, ← HN.out, ← HM.out]
  have h5 : Sat W w4 (sep (osl 5 1 a2 (encR b).length c2 ((encR b).map bv)) (sep (kn I) A)) := by
    rw [← hl, encR, List.map_append, ← HN.out, ← HV.out]; exact h4
  have HL := Lib.hid hl
  clear hl h4 hS
  go_wp2_with fail
  go_ret
  exact ⟨a2, c2, by rw [← HL.out]; rfl, h5⟩
end Go.Proofs.YtcmjbjlliehdiaaDoor
