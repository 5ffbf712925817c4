/- Encode of whatever packet, both. -/
import Derived.Test.YtnmkdidhilekiaaE5
namespace Go.Proofs.Ytnmkdidhilekiaa
open Go.RowKit PA
def encP (p : Pkt) : List UInt8 × Int := if validP p = true then (wholeP (coreP p), 0) else ([], 1)
theorem encode_any {W w : World} {A : Assn} {I : Mem} (p : Pkt) (v : Value) (h : Sat W w (sep (kn I) A)) (hv : rBytes.rel I [v] p.b) (h1 : I64 p.seq) (h2 : I64 p.ack) (h3 : p.b.length ≤ 1000000) :
    Calls Try.prog 28 #[.agg #[.int .i64 p.seq, .int .i64 p.ack, v]] w fun e w' => ∃ a c, e = .returned (.tuple #[.slice a (encP p).1.length c, .int .i64 (encP p).2]) ∧ Sat W w' (sep (rBytes.is [.slice a (encP p).1.length c] (encP p).1) (sep (kn I) A)) := by
  unfold encP
  cases hv2 : validP p with
  | false =>
    refine (encode_no p v h hv hv2).mono fun e w' ⟨e1, e2⟩ => ⟨none, 0, ?_, ?_⟩
    · rw [e1]; rfl
    · exact e2.bytes_nil
  | true =>
    refine (encode_ok p v h hv hv2 h1 h2 h3).mono fun e w' ⟨a, c, e1, e2⟩ => ⟨a, c, ?_, ?_⟩
    · rw [e1]; rfl
    · exact e2.bytes_of_osl.2
theorem rencode_any {W w : World} {A : Assn} {I : Mem} (p : Pkt) (v : Value) (h : Sat W w (sep (kn I) A)) (hv : rBytes.rel I [v] p.b) (h1 : I64 p.seq) (h2 : I64 p.ack) (h3 : p.b.length ≤ 1000000) :
    Calls Try.prog 29 #[.agg #[.int .i64 p.seq, .int .i64 p.ack, v]] w fun e w' => ∃ a c, e = .returned (.tuple #[.slice a (encP p).1.length c, .int .i64 (encP p).2]) ∧ Sat W w' (sep (rBytes.is [.slice a (encP p).1.length c] (encP p).1) (sep (kn I) A)) := by
  unfold encP
  cases hv2 : validP p with
  | false =>
    refine (rencode_no p v h hv hv2).mono fun e w' ⟨e1, e2⟩ => ⟨none, 0, ?_, ?_⟩
    · rw [e1]; rfl
    · exact e2.bytes_nil
  | true =>
    refine (rencode_ok p v h hv hv2 h1 h2 h3).mono fun e w' ⟨a, c, e1, e2⟩ => ⟨a, c, ?_, ?_⟩
    · rw [e1]; rfl
    · exact e2.bytes_of_osl.2
theorem encP_length (p : Pkt) (h1 : I64 p.seq) (h2 : I64 p.ack) (h3 : p.b.length ≤ 1000000) : (encP p).1.length ≤ p.b.length + 50 := by
  unfold encP
  split
  · have e1 := coreP_length p h1 h2 h3
    have e2 := wholeP_length (coreP p) (by omega)
    show (wholeP (coreP p)).length ≤ _
    omega
  · exact Nat.zero_le _
theorem wholeP_pos (c : List UInt8) : 1 ≤ (wholeP c).length := by
  rw [wholeP, List.length_append]
  have := Lib.uvarint_pos (bytesN parcel c)
  omega
end Go.Proofs.Ytnmkdidhilekiaa
