/- The reference's hash: Words, Sum, Bytes; both hashes as contracts over assertions. -/
import Derived.Test.YtbniekblkbdidaaH3
import Derived.Test.YtbniekblkbdidaaKn
import Derived.LoopTactic
import Derived.Handy
namespace Go.Proofs.Ytbniekblkbdidaa
open Go.RowKit PA
theorem hbytes_any {W w : World} {A : Assn} {I : Mem} (s : ByteArray) (v : Value) (bs : List UInt8) (h : Sat W w (sep (kn I) A)) (hv : rBytes.rel I [v] bs) (hs : s.size ≤ 4611686018427387904) (hb : bs.length ≤ 140737488351240) :
    Calls Try.prog 32 #[.string s, v] w fun e w' => e = .returned (.int .u64 (bytesN s.data.toList bs : Nat)) ∧ Sat W w' (sep (kn I) A) := by
  obtain ⟨a, c, rfl, _, hc⟩ := bytes_rel.1 hv
  refine (hbytes_spec s a c bs w hs hb fun hne => ?_).mono fun e w' ⟨h1, h2⟩ => ⟨h1, h.of_below h2⟩
  obtain ⟨b, o, e, hcc⟩ := bytes_cells hc hne
  obtain ⟨b', o', e', hlt⟩ := cells_lt hc h.ext (by simpa using hne)
  rw [e] at e'; cases e'
  exact ⟨b, o, e, hlt, fun j hj => hcc w h.ext j hj⟩
theorem infoU64 : (Try.prog.info? 61).map (fun i => (i.zero, i.size, i.bytes)) = some (some (.int .u64 0), 1, 8) := by kernel_rfl
def uv (x : Nat) : Value := .int .u64 (x : Nat)
theorem word_last (bs : List UInt8) (i j : Nat) (h1 : i ≤ j) (h2 : j < bs.length) : (bs.drop j).take 1 = [bs[j]] := by
  rw [List.take_one, List.head?_drop]; simp [h2]
theorem leN_part (bs : List UInt8) (j e : Nat) (hj : j < e) (he : e ≤ bs.length) : leN ((bs.drop j).take (e - j)) = bs[j].toNat + 256 * leN ((bs.drop (j + 1)).take (e - (j + 1))) := by
  rw [List.drop_eq_getElem_cons (by omega), show e - j = (e - (j + 1)) + 1 by omega, List.take_succ_cons, leN]
end Go.Proofs.Ytbniekblkbdidaa
