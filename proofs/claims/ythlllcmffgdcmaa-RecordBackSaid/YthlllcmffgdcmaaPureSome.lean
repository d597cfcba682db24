/- What the statements of layer 2 hand on as decisions, and tell the document: as numbers in a row. -/
import Derived.Test.YthlllcmffgdcmaaSome0
import Derived.Test.YthlllcmffgdcmaaPureReads
namespace Go.Proofs.Ythlllcmffgdcmaa.PureSome
open Go.RowKit Go.Proofs.Ythlllcmffgdcmaa.PRecordReads Go.Proofs.Ythlllcmffgdcmaa.Reads Go.Proofs.Ythlllcmffgdcmaa.Some Go.Proofs.YthlllcmffgdcmaaW.PrintWords Go.Proofs.YthlllcmffgdcmaaW.PrintLast Go.Proofs.Ythlllcmffgdcmaa.LebPlain Go.Proofs.Ythlllcmffgdcmaa.LebWords Go.Proofs.Ythlllcmffgdcmaa.RecPlain Go.Proofs.Ythlllcmffgdcmaa.RecRecordReads Go.Proofs.Ythlllcmffgdcmaa.PureReads

theorem and_255 (x : Int) : 0 ≤ Go.bits .and .i64 x 255 ∧ Go.bits .and .i64 x 255 ≤ 255 := by
  have h : (BitVec.ofInt 64 x &&& BitVec.ofInt 64 255).toNat ≤ 255 := by
    rw [BitVec.toNat_and]; exact Nat.and_le_right
  have e : Go.bits .and .i64 x 255 = IntKind.i64.wrap ((BitVec.ofInt 64 x &&& BitVec.ofInt 64 255).toNat : Int) := rfl
  rw [e, IntKind.wrap_i64]
  omega

theorem and_65535 (x : Int) : 0 ≤ Go.bits .and .i64 x 65535 ∧ Go.bits .and .i64 x 65535 ≤ 65535 := by
  have h : (BitVec.ofInt 64 x &&& BitVec.ofInt 64 65535).toNat ≤ 65535 := by
    rw [BitVec.toNat_and]; exact Nat.and_le_right
  have e : Go.bits .and .i64 x 65535 = IntKind.i64.wrap ((BitVec.ofInt 64 x &&& BitVec.ofInt 64 65535).toNat : Int) := rfl
  rw [e, IntKind.wrap_i64]
  omega

theorem and_most (x : Int) : 0 ≤ Go.bits .and .u64 x 4611686018427387903 ∧ Go.bits .and .u64 x 4611686018427387903 ≤ 4611686018427387903 := by
  have h : (BitVec.ofInt 64 x &&& BitVec.ofInt 64 4611686018427387903).toNat ≤ 4611686018427387903 := by
    rw [BitVec.toNat_and]; exact Nat.and_le_right
  have e : Go.bits .and .u64 x 4611686018427387903 = IntKind.u64.wrap ((BitVec.ofInt 64 x &&& BitVec.ofInt 64 4611686018427387903).toNat : Int) := rfl
  rw [e, IntKind.wrap_u64]
  omega

/-- The decision that a statement makes of two numbers is that of one number. -/
theorem some_one (x y : Int) : ∃ n : Nat, n < 18446744073709551616 ∧ (⟨wrap64 (1 + (Int.tmod (Go.bits .and .i64 x 255) 4)), Go.bits .and .u64 y 4611686018427387903⟩ : S31) = recP n := by
  obtain ⟨a0, a1⟩ := and_255 x
  obtain ⟨b0, b1⟩ := and_most y
  generalize Go.bits .and .i64 x 255 = a at a0 a1
  generalize Go.bits .and .u64 y 4611686018427387903 = b at b0 b1
  obtain ⟨a, rfl⟩ := Int.eq_ofNat_of_zero_le a0
  obtain ⟨b, rfl⟩ := Int.eq_ofNat_of_zero_le b0
  refine ⟨4 * b + a % 4, by omega, ?_⟩
  rw [Int.tmod_eq_emod_of_nonneg (by omega)]
  unfold recP
  congr 1
  · have : (a : Int) % 4 = ((a % 4 : Nat) : Int) := by omega
    rw [this]
    have h : a % 4 < 4 := by omega
    rw [show (4 * b + a % 4) % 4 = a % 4 from by omega]
    generalize a % 4 = q at h
    unfold wrap64; omega
  · omega

theorem some_l0 (l : List S36) : ∀ (d k i : Nat) (ns : List Nat), i + d = min l.length 40 → d + 5 ≤ k → ns.length = i → (∀ n ∈ ns, n < 18446744073709551616) →
    ∃ ms : List Nat, shunterlaw02_Some.l0 k l (ns.map recP) (i : Int) = some (ms.map recP) ∧ ms.length = min l.length 40 ∧ ∀ n ∈ ms, n < 18446744073709551616 := by
  intro d
  induction d with
  | zero =>
    intro k i ns hi hk hl hn
    obtain ⟨k, rfl⟩ : ∃ m, k = m + 1 := ⟨k - 1, by omega⟩
    rw [shunterlaw02_Some.l0]
    by_cases h : (i : Int) < (l.length : Int)
    · rw [if_pos h, if_neg (by omega)]; exact ⟨ns, rfl, by omega, hn⟩
    · rw [if_neg h]; exact ⟨ns, rfl, by omega, hn⟩
  | succ d ih =>
    intro k i ns hi hk hl hn
    obtain ⟨k, rfl⟩ : ∃ m, k = m + 1 := ⟨k - 1, by omega⟩
    obtain ⟨n, hn64, he⟩ := some_one ((rd_T36 l (i : Int)).f0) ((rd_T36 l (i : Int)).f1)
    rw [shunterlaw02_Some.l0, if_pos (by omega), if_pos (by omega), if_pos (by omega), if_pos (by rw [List.length_map]; omega), he,
      show wrap64 ((i : Int) + 1) = ((i + 1 : Nat) : Int) from by unfold wrap64; omega, show ns.map recP ++ [recP n] = (ns ++ [n]).map recP from by simp]
    exact ih k (i + 1) (ns ++ [n]) (by omega) (by omega) (by simp [hl]) (fun m hm => by
      rcases List.mem_append.1 hm with h | h
      · exact hn m h
      · simp only [List.mem_singleton] at h; omega)

theorem some_f (l : List S36) (k : Nat) (hk : 50 ≤ k) : ∃ ms : List Nat, shunterlaw02_Some.f k l = some (ms.map recP) ∧ ms.length ≤ 40 ∧ ∀ n ∈ ms, n < 18446744073709551616 := by
  obtain ⟨ms, h1, h2, h3⟩ := some_l0 l (min l.length 40) k 0 [] (by omega) (by omega) rfl (by simp)
  exact ⟨ms, h1, by omega, h3⟩

theorem told_l0 (ns : List Nat) (hl : ns.length ≤ 1000000) : ∀ (d k i : Nat), i + d = ns.length → d < k →
    shunterlaw02_Told.l0 k ((ns.take i).map recQ) (ns.map recP) (ns.length : Int) (i : Int) = some (ns.map recQ) := by
  intro d
  induction d with
  | zero =>
    intro k i hi hk
    obtain ⟨k, rfl⟩ : ∃ m, k = m + 1 := ⟨k - 1, by omega⟩
    obtain rfl : i = ns.length := by omega
    rw [shunterlaw02_Told.l0, if_neg (by omega), List.take_length]
  | succ d ih =>
    intro k i hi hk
    obtain ⟨k, rfl⟩ : ∃ m, k = m + 1 := ⟨k - 1, by omega⟩
    have hlt : i < ns.length := by omega
    rw [shunterlaw02_Told.l0, if_pos (show (i : Int) < (ns.length : Int) by omega), if_pos (show (0 : Int) ≤ (i : Int) by omega), if_pos (show (i : Int) < ((ns.map recP).length : Int) by rw [List.length_map]; omega),
      if_pos (by rw [List.length_map, List.length_take]; omega), rd_recP ns i hlt, show wrap64 ((i : Int) + 1) = ((i + 1 : Nat) : Int) from by unfold wrap64; omega]
    have := ih k (i + 1) (by omega) (by omega)
    rw [List.take_succ_eq_append_getElem hlt, List.map_append] at this
    exact this

theorem told_f (ns : List Nat) (hl : ns.length ≤ 1000000) (k : Nat) (hk : ns.length < k) : shunterlaw02_Told.f k (ns.map recP) = some (ns.map recQ) := by
  have := told_l0 ns hl ns.length k 0 (by omega) hk
  unfold shunterlaw02_Told.f
  rw [List.length_map]
  exact this

end Go.Proofs.Ythlllcmffgdcmaa.PureSome
