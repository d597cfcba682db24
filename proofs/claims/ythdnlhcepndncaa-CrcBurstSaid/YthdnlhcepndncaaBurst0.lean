import Derived.Test.YthdnlhcepndncaaCrcSumCrcBurst
import Derived.Test.YthdnlhcepndncaaBurstPlain
import Derived.Deep.RegionHeld3
import Derived.Deep.DeepCutAuto
import Derived.Deep.CutBlock
import Derived.StillTailTactics
namespace Go.Proofs.Ythdnlhcepndncaa.Burst
open Go.RowKit Go.Proofs.YthdnlhcepndncaaW.PrintWords Go.Proofs.YthdnlhcepndncaaW.PrintLast Go.Proofs.YthdnlhcepndncaaW.PrintMore Go.Proofs.Ythdnlhcepndncaa.CrcPlain Go.Proofs.Ythdnlhcepndncaa.LebWords Go.Proofs.Ythdnlhcepndncaa.CrcSumCrcBurst Go.Proofs.Ythdnlhcepndncaa.QCrcBurst
set_option linter.unusedVariables false
set_option linter.unusedSimpArgs false

/-- The first n bytes. -/
def cutS (s : ByteArray) (n : Nat) : ByteArray := if (n : Int) < (s.size : Int) then s.extract 0 n else s
theorem cutS_size (s : ByteArray) (n : Nat) : (cutS s n).size ≤ n := by
  unfold cutS; split
  · rw [ByteArray.size_extract]; omega
  · omega
theorem cut_calls (s : ByteArray) (n : Nat) (N : Int) (hN : N = (n : Int)) (w : World) : Calls Try.prog 24 #[.string s, .int .i64 N] w fun e w' => e = .returned (.string (cutS s n)) ∧ w = w' := by
  subst hN
  by_cases h : (n : Int) < (s.size : Int)
  · have e : cutS s n = s.extract 0 n := if_pos h
    have h1 : decide ((n : Int) < (s.size : Int)) = true := decide_eq_true h
    rw [e]
    clear e
    go_enter Try.func24, Try.ntmps24
    go_wp2
    go_ret
    exact ⟨rfl, rfl⟩
  · have e : cutS s n = s := if_neg h
    have h1 : decide ((n : Int) < (s.size : Int)) = false := decide_eq_false h
    rw [e]
    clear e
    go_enter Try.func24, Try.ntmps24
    go_wp2
    go_ret
    exact ⟨rfl, rfl⟩

/-- Bytes in memory, to be read and written. -/
def BytesAt (w : World) (z : Nat) (l : List Nat) : Prop := ∀ j, j < l.length → w.cell? ⟨z, j, none⟩ = some (.int .u8 ((l.getD j 0 : Nat) : Int)) ∧ w.frozen? ⟨z, j, none⟩ = false
theorem bytes_at_new (w : World) (s : ByteArray) : BytesAt (Lib.bytesWorld w 5 s) w.heap.size (bl s) := by
  intro j hj
  have hj' : j < s.size := by rwa [bl_length] at hj
  constructor
  · rw [Lib.bytesWorld_cell w 5 s j hj']
    congr 2
    simp only [bl, List.getD_eq_getElem?_getD, List.getElem?_map]
    rcases s.data.toList[j]? with _ | q <;> simp
  · simp only [World.frozen?, Lib.bytesWorld_at_new, Lib.bytesCells, Array.size_append, Array.size_map]
    have : s.data.size = s.size := rfl
    simp only [this, Bool.and_eq_false_iff, decide_eq_false_iff_not]
    omega
theorem BytesAt.set_ {w : World} {z : Nat} {l : List Nat} (h : BytesAt w z l) (k v : Nat) (hk : k < l.length) : BytesAt (w.setCell ⟨z, k, none⟩ (.int .u8 (v : Int))) z (l.set k v) := by
  intro j hj
  rw [List.length_set] at hj
  constructor
  · by_cases he : j = k
    · subst he
      rw [World.cell?_setCell_same _ _ _ (h j hj).1]
      simp [List.getD_eq_getElem?_getD, hj]
    · rw [World.cell?_setCell_other _ _ _ _ (by intro hh; injection hh with _ hh; exact he hh.symm), (h j hj).1]
      simp [List.getD_eq_getElem?_getD, List.getElem?_set_ne (Ne.symm he)]
  · rw [World.frozen?_setCell]; exact (h j hj).2
theorem BytesAt.below {w w' : World} {z : Nat} {l : List Nat} (h : BytesAt w z l) (hb : Below w.heap.size w w') : BytesAt w' z l := fun j hj => by
  have hlt := World.block_lt_of_cell? w _ (h j hj).1
  exact ⟨(hb.cell hlt).trans (h j hj).1, (hb.frozen hlt).trans (h j hj).2⟩
theorem BytesAt.reads {w : World} {z : Nat} {l : List Nat} (h : BytesAt w z l) (hm : l.length ≤ 9223372036854775807) : ReadsInt w .u8 (some ⟨z, 0, none⟩) l.length (l.map Int.ofNat) := by
  refine ⟨by simp, hm, fun _ => ⟨_, rfl, fun j hj => ?_⟩⟩
  rw [add_plain, (h j hj).1]
  congr 2
  simp only [List.getD_eq_getElem?_getD, List.getElem?_map]
  rcases l[j]? with _ | q <;> simp

theorem spoiled {w : World} {z v b i q r : Nat} {l : List Nat} (h : BytesAt w z (spoil l v b i)) (hk : b + i < 8 * (spoil l v b i).length) (hq : q = (b + i) / 8) (hr : r = (b + i) % 8) (hbit : v / 2 ^ i % 2 = 1) (hl : ∀ x ∈ spoil l v b i, x < 256) :
    BytesAt (w.setCell ⟨z, q, none⟩ (.int .u8 (Go.bits .xor .u8 (((spoil l v b i)[q]?.getD 0 : Nat) : Int) (2 ^ r % 256)))).drew z (spoil l v b (i + 1)) := by
  have hp : 2 ^ r < 256 := by rw [hr]; exact pow_lt256 _
  have hx : (spoil l v b i)[q]?.getD 0 < 256 := by
    rcases hh : (spoil l v b i)[q]? with _ | c
    · simp
    · exact hl c (List.mem_of_getElem? hh)
  have e1 : ((2 : Int) ^ r % 256) = ((2 ^ r : Nat) : Int) := by
    rw [show ((2 : Int) ^ r) = ((2 ^ r : Nat) : Int) by rw [Int.natCast_pow]; rfl]
    exact Int.emod_eq_of_lt (Int.natCast_nonneg _) (Int.ofNat_lt.2 hp)
  have h2 := h.set_ q ((spoil l v b i)[q]?.getD 0 ^^^ 2 ^ r) (by omega)
  rw [e1, u8_xor_nat _ _ hx hp]
  have e2 : spoil l v b (i + 1) = (spoil l v b i).set q ((spoil l v b i)[q]?.getD 0 ^^^ 2 ^ r) := by
    rw [spoil, if_pos hbit, CrcPlain.flip, ← hq, ← hr, List.getD_eq_getElem?_getD]
  rw [e2]
  exact h2

theorem conv_of {w : World} {z n c : Nat} {xs : List Int} {G : ByteArray} (h : ReadsInt w .u8 (some ⟨z, 0, none⟩) n xs) (hG : G = strOfNums xs) : (convert 66 9 (.slice (some ⟨z, 0, none⟩) n c)).run Try.prog w = .ok (.string G) w := by
  rw [hG]
  exact string_of_reads Try.underlying66 Try.underlying5 Try.underlying9 h

/-- Bytes in memory that make a text. -/
def Cv (w : World) (z n : Nat) (l : List Nat) (G : ByteArray) : Prop := BytesAt w z l ∧ l.length = n ∧ n ≤ 1000 ∧ G = strOfNums (l.map Int.ofNat)
def Run (w : World) (z n c : Nat) (G : ByteArray) : Prop := (convert 66 9 (.slice (some ⟨z, 0, none⟩) n c)).run Try.prog w = .ok (.string G) w
theorem Cv.drew {w : World} {z n : Nat} {l : List Nat} {G : ByteArray} (h : Cv w z n l G) : Cv w.drew z n l G := h
theorem Cv.below {w w' : World} {z n : Nat} {l : List Nat} {G : ByteArray} (h : Cv w z n l G) (hb : Below w.heap.size w w') : Cv w' z n l G := ⟨h.1.below hb, h.2⟩
theorem Cv.alloc {w : World} {z n : Nat} {l : List Nat} {G : ByteArray} (h : Cv w z n l G) (o : Obj) : Cv (w.alloc o) z n l G := h.below (below_alloc (Below.refl _ _) o)
theorem Cv.both {w : World} {z n : Nat} {l : List Nat} {G : ByteArray} (h : Cv w z n l G) (c : Nat) : Cv w z n l G ∧ (convert 66 9 (.slice (some ⟨z, 0, none⟩) n c)).run Try.prog w = .ok (.string G) w := by
  refine ⟨h, conv_of ?_ h.2.2.2⟩
  have := h.1.reads (by have := h.2.1; have := h.2.2.1; omega)
  rwa [h.2.1] at this

theorem cell_new (w : World) (s : ByteArray) : (w.alloc (Obj.cells #[Value.string s] 9)).drew.cell? ⟨w.heap.size, 0, none⟩ = some (.string s) := blk_cell (blk_drew (blk_new w _)) 0

theorem cell_new' (w : World) (s : ByteArray) : (w.alloc (Obj.cells #[Value.string s] 9)).cell? ⟨w.heap.size, 0, none⟩ = some (.string s) := blk_cell (blk_new w _) 0
theorem cell_one (w : World) (s : ByteArray) (o : Obj) : ((w.alloc (Obj.cells #[Value.string s] 9)).alloc o).drew.cell? ⟨w.heap.size, 0, none⟩ = some (.string s) := blk_cell (blk_drew (blk_alloc (blk_new w _) o)) 0
theorem cell_two (w : World) (s : ByteArray) (o : Obj) : ((w.alloc o).alloc (Obj.cells #[Value.string s] 9)).drew.cell? ⟨w.heap.size + 1, 0, none⟩ = some (.string s) := by
  simp

theorem toList_inj {s t : ByteArray} (h : s.toList = t.toList) : s = t := by
  rw [ByteArray.toList_eq, ByteArray.toList_eq] at h
  apply ByteArray.ext
  exact Array.ext' h
theorem burst_eq (t G : ByteArray) (l : List Nat) (v b i : Nat) (hi : i ≤ 32) (hb : b + i ≤ 8 * t.size) (hl : l = spoil (bl t) v b i) (hG : bl G = l) :
    ((((sumN (bl G) : Nat) : Int) == ((sumN (bl t) : Nat) : Int)) == (G.toList == t.toList)) = true := by
  have hlt : ∀ x ∈ l, x < 256 := by rw [hl]; exact spoil_lt _ _ _ _ (bl_lt t)
  have key := spoil_sum 4294967295 (bl t) (bl_lt t) v b i hi (by rw [bl_length]; exact hb)
  rw [← hl] at key
  have h1 := crcN_lt l 4294967295 (by decide) hlt
  have h2 := crcN_lt (bl t) 4294967295 (by decide) (bl_lt t)
  by_cases he : G = t
  · subst he; simp
  · have e1 : (G.toList == t.toList) = false := beq_eq_false_iff_ne.2 (fun h => he (toList_inj h))
    have e2 : (((sumN (bl G) : Nat) : Int) == ((sumN (bl t) : Nat) : Int)) = false := by
      rw [beq_eq_false_iff_ne]
      intro h
      have h' : sumN (bl G) = sumN (bl t) := by exact_mod_cast h
      unfold sumN at h'
      rw [hG] at h'
      have hc : crcN 4294967295 l = crcN 4294967295 (bl t) := by omega
      exact he (bl_inj (hG.trans (key.1 hc)))
    rw [e1, e2]; rfl

theorem empty_iff (t : ByteArray) : t.toList.isEmpty = true ↔ t.size = 0 := by
  rw [ByteArray.toList_eq, List.isEmpty_iff, ← List.length_eq_zero_iff, Array.length_toList]
  exact Iff.rfl

theorem awake_calls (w : World) : Calls Try.prog 34 #[] w fun e w' => e = .returned (.bool true) ∧ Below w.heap.size w w' :=
  shunterlaw03_awake.calls 5 true w (awake3 5 (by decide))

theorem of_one (s : ByteArray) (hs : s.size ≤ 1000) (h : Nat) (W : World) (hc : W.cell? ⟨h, 0, none⟩ = some (.string s)) :
    Calls Try.prog 36 #[.slice (some ⟨h, 0, none⟩) 1 1] W fun e W' => e = .returned (.int .u32 ((sumN (bl s) : Nat) : Int)) ∧ Below W.heap.size W W' := by
  have hf := of_f [s] (by simp) (by intro x hx; simp only [List.mem_singleton] at hx; subst hx; omega) 3 (by simp)
  have e : allB [s] = bl s := by simp [allB]
  rw [e] at hf
  have hr : ReadsOf Value.string ByteArray.empty W (some ⟨h, 0, none⟩) [s].length [s] := ⟨rfl, by simp, fun _ => ⟨_, rfl, fun j hj => by
    obtain rfl : j = 0 := by simpa using hj
    rw [add_plain]; exact hc⟩⟩
  exact crc_Of.calls 3 (some ⟨h, 0, none⟩) 1 [s] _ W (Kd.C_of_reads hr) (by simp) hf

set_option maxHeartbeats 4000000 in
set_option maxRecDepth 100000 in
theorem burst_law (s : ByteArray) (bit : Int) (v : Nat) (hv : v < 4294967296) (w : World) :
    Calls Try.prog 11 #[.string s, .int .i64 bit, .int .u32 (v : Int)] w fun e w' => e = .returned (.bool true) ∧ Below w.heap.size w w' := by
  have hts := cutS_size s 100
  obtain ⟨t, ht⟩ : ∃ t, t = cutS s 100 := ⟨_, rfl⟩
  rw [← ht] at hts
  have HT := Aside0.mk ht
  clear ht
  by_cases h0 : t.size = 0
  · have hE : t.toList.isEmpty = true := (empty_iff t).2 h0
    clear h0 hts
    go_enter Try.func11, Try.ntmps11
    go_wp2_with (first
      | (go_at_call 24; (with_reducible refine (cut_calls _ 100 100 rfl _).mono ?_); rintro e w3 ⟨rfl, rfl⟩; rw [← HT.out])
      | (go_at_call 34; (with_reducible refine (awake_calls w).mono ?_); rintro e w1 ⟨rfl, hb⟩; have B1 := Aside0.mk hb; clear hb)
      | (go_at_call 34; (with_reducible refine (awake_calls w1).mono ?_); rintro e w2 ⟨rfl, hb⟩; have B2 := Aside0.mk (below_step B1.out hb); clear hb))
    go_ret
    exact ⟨rfl, B2.out⟩
  · have hE : t.toList.isEmpty = false := by
      cases he : t.toList.isEmpty with
      | true => exact absurd ((empty_iff t).1 he) h0
      | false => rfl
    have hpos : 0 < t.size := by omega
    have hcv := print_bytes (P := Try.prog) 9 66 5 Try.underlying9 Try.underlying66 Try.underlying5 t
    obtain ⟨r1, hr1, hr1a, hr1b⟩ : ∃ r1 : Int, bit.tmod (8 * (t.size : Int)) = r1 ∧ -(8 * (t.size : Int)) < r1 ∧ r1 < 8 * (t.size : Int) := by
      refine ⟨_, rfl, ?_, ?_⟩
      · exact Int.lt_tmod_of_pos bit (by omega)
      · exact Int.tmod_lt_of_pos bit (by omega)
    obtain ⟨b, hb, hbl⟩ : ∃ b : Nat, (r1 + 8 * (t.size : Int)).tmod (8 * (t.size : Int)) = (b : Int) ∧ b < 8 * t.size := by
      have h1 := Int.tmod_nonneg (8 * (t.size : Int)) (a := r1 + 8 * (t.size : Int)) (by omega)
      have h2 := Int.tmod_lt_of_pos (r1 + 8 * (t.size : Int)) (b := 8 * (t.size : Int)) (by omega)
      exact ⟨((r1 + 8 * (t.size : Int)).tmod (8 * (t.size : Int))).toNat, by omega, by omega⟩
    have hb' : (r1 + 8 * (t.size : Int)) % (8 * (t.size : Int)) = (b : Int) := by rw [← hb, Int.tmod_eq_emod_of_nonneg (by omega)]
    clear h0
    go_enter Try.func11, Try.ntmps11
    go_upto_block 0 with (first
      | (go_at_call 24; (with_reducible refine (cut_calls _ 100 100 rfl _).mono ?_); rintro e w3 ⟨rfl, rfl⟩; rw [← HT.out])
      | (go_at_call 34; (with_reducible refine (awake_calls w).mono ?_); rintro e w1 ⟨rfl, hb⟩; have B1 := Aside0.mk hb; clear hb))
    have HB0 := Aside0.mk (bytes_at_new w1 t)
    have HL0 := Aside0.mk (bytes_below B1.out B1.out.size 5 t)
    have HZ := Aside0.mk (B1.out.size)
    generalize grownCap w1 t.size 0 5 = cR
    generalize w1.heap.size = z at HB0 HZ ⊢
    generalize Lib.bytesWorld w1 5 t = w2 at HB0 HL0 ⊢
    clear hcv hr1 hb hb' hr1a hr1b
    go_cut [9] (fun v9 wx => ∃ i : Nat, i ≤ 32 ∧ b + i ≤ 8 * t.size ∧ BytesAt wx z (spoil (bl t) v b i) ∧ Below w.heap.size w wx)
    case first =>
      go_wp2
      go_loopw [9] (fun x wr => ∃ i : Nat, i ≤ 32 ∧ b + i ≤ 8 * t.size ∧ x = .int .i64 i ∧ BytesAt wr z (spoil (bl t) v b i) ∧ Below w.heap.size w wr) (fun x _ => 32 - (intOf x).toNat)
      case atStart => exact ⟨0, by omega, by omega, rfl, HB0.out, HL0.out⟩
      case round =>
        obtain ⟨i, hi, hbi, rfl, hs, hl⟩ := hrel
        have HS := Aside0.mk hs
        have HL := Aside0.mk hl
        clear hs hl
        by_cases h32 : i < 32
        · have q1 : decide ((i : Int) < 32) = true := decide_eq_true (by omega)
          by_cases hbn : b + i < 8 * t.size
          · have q2 : decide ((b : Int) < 8 * (t.size : Int) - (i : Int)) = true := decide_eq_true (by omega)
            have hp : Go.bits .and .u32 ((v : Int) / 2 ^ i) 1 = ((v / 2 ^ i % 2 : Nat) : Int) := by
              rw [show (v : Int) / 2 ^ i = ((v / 2 ^ i : Nat) : Int) by rw [Int.natCast_ediv, Int.natCast_pow]; rfl]
              exact CrcLink.and_one32 _ (Nat.lt_of_le_of_lt (Nat.div_le_self _ _) hv)
            by_cases hbit : v / 2 ^ i % 2 = 1
            · have p1 : (Go.bits .and .u32 ((v : Int) / 2 ^ i) 1 == 1) = true := by rw [hp, hbit]; rfl
              obtain ⟨q, hq⟩ : ∃ q, q = (b + i) / 8 := ⟨_, rfl⟩
              obtain ⟨r, hr⟩ : ∃ r, r = (b + i) % 8 := ⟨_, rfl⟩
              have e8 : ((b : Int) + (i : Int)) / 8 = (q : Int) := by omega
              have e9 : ((b : Int) + (i : Int)) % 8 = (r : Int) := by omega
              have e8' : ((b : Int) + (i : Int)).tdiv 8 = (q : Int) := by rw [Int.tdiv_eq_ediv_of_nonneg (by omega)]; exact e8
              have e9' : ((b : Int) + (i : Int)).tmod 8 = (r : Int) := by rw [Int.tmod_eq_emod_of_nonneg (by omega)]; exact e9
              have hr8 : (r : Int) < 8 := by clear e8 e9 e8' e9'; omega
              have hqt : (q : Int) < (t.size : Int) := by clear e8 e9 e8' e9'; omega
              have hc := HS.out q (by rw [spoil_length, bl_length]; clear e8 e9 e8' e9'; omega)
              have k0 := hc.1
              have k1 := hc.2
              have HQ := Aside0.mk (And.intro hq (And.intro hr hbit))
              clear hc hp hbit hq hr
              have eqw : IntKind.i64.wrap (q : Int) = (q : Int) := by clear e8 e9 e8' e9'; rw [IntKind.wrap_i64]; omega
              have erw : IntKind.i64.wrap (r : Int) = (r : Int) := by clear e8 e9 e8' e9'; rw [IntKind.wrap_i64]; omega
              go_wp2
              go_still_tail 10, (by kernel_rfl)
              change wpList _ _ _ _ _ wr.drew
              go_wp2
              have HF := Aside0.mk (spoiled HS.out (by rw [spoil_length, bl_length]; omega) HQ.out.1 HQ.out.2.1 HQ.out.2.2 (spoil_lt _ _ _ _ (bl_lt t)))
              exact ⟨⟨i + 1, by omega, by clear e8 e9 e8' e9' eqw erw; omega, by go_num, HF.out, ((HL.out.setCell (by have := HZ.out; exact this) _)).drew⟩, by simp [intOf]; clear e8 e9 e8' e9' eqw erw; omega⟩
            · have p1 : (Go.bits .and .u32 ((v : Int) / 2 ^ i) 1 == 1) = false := by rw [hp, beq_eq_false_iff_ne]; intro hh; exact hbit (by exact_mod_cast hh)
              clear hp
              have HSP := Aside0.mk (show spoil (bl t) v b (i + 1) = spoil (bl t) v b i from if_neg hbit)
              go_wp2
              exact ⟨⟨i + 1, by omega, by omega, by go_num, by rw [HSP.out]; exact HS.out, HL.out⟩, by simp [intOf]; omega⟩
          · have q2 : decide ((b : Int) < 8 * (t.size : Int) - (i : Int)) = false := decide_eq_false (by omega)
            go_wp2
            go_meet
            exact ⟨i, hi, hbi, HS.out, HL.out⟩
        · have q1 : decide ((i : Int) < 32) = false := decide_eq_false (by omega)
          go_wp2
          go_meet
          exact ⟨i, hi, hbi, HS.out, HL.out⟩
    case rest =>
      obtain ⟨i, hi, hbi, hs, hl⟩ := hcut
      obtain ⟨l, hl0⟩ : ∃ l, l = spoil (bl t) v b i := ⟨_, rfl⟩
      have hln : l.length = t.size := by rw [hl0, spoil_length, bl_length]
      have hlt : ∀ x ∈ l, x < 256 := by rw [hl0]; exact spoil_lt _ _ _ _ (bl_lt t)
      rw [← hl0] at hs
      have hR : ReadsInt wc .u8 (some ⟨z, 0, none⟩) t.size (l.map Int.ofNat) := hln ▸ hs.reads (by omega)
      obtain ⟨G, hG⟩ : ∃ G, G = strOfNums (l.map Int.ofNat) := ⟨_, rfl⟩
      have hbG : bl G = l := by rw [hG]; exact bl_nums l hlt
      have HS := Aside0.mk hs
      have HL := Aside0.mk hl
      have HR := Aside0.mk hR
      have HG := Aside0.mk hG
      have HbG := Aside0.mk hbG
      have HS0 := Aside0.mk hln
      clear hs hl hR hG hbG hln
      have HV := Aside0.mk (burst_eq t G l v b i hi (by omega) hl0 HbG.out)
      have hcv0 : Cv wc z t.size l G := ⟨HS.out, HR.out.1 ▸ (by simp), by omega, HG.out⟩
      go_wp2
      have HGs := Aside0.mk (show G.size ≤ 1000 by have h1 := bl_length G; rw [HbG.out] at h1; have h2 := HS0.out; omega)
      have HTs := Aside0.mk (show t.size ≤ 1000 by omega)
      go_region_held3 (fun w' => Cv w' z t.size l G ∧ (convert 66 9 (.slice (some ⟨z, 0, none⟩) t.size cR)).run Try.prog w' = .ok (.string G) w') (first | exact Cv.both (Cv.drew (by assumption)) _ | exact Cv.both (Cv.alloc (And.left (by assumption)) _) _ | exact Cv.both (Cv.below (And.left (by assumption)) hb_) _)
        (first
          | (go_at_call 36; refine (of_one G HGs.out _ _ ?_).mono ?_; (first | (first | exact cell_new _ _ | exact cell_new' _ _ | exact cell_one _ _ _ | exact cell_two _ _ _) | (refine pw_cell_below hb_ ?_; (first | exact cell_new _ _ | exact cell_new' _ _ | exact cell_one _ _ _ | exact cell_two _ _ _)) | (refine pw_cell_below (below_drew hb_) ?_; (first | exact cell_new _ _ | exact cell_new' _ _ | exact cell_one _ _ _ | exact cell_two _ _ _))); rintro e w' ⟨rfl, hb_⟩)
          | (go_at_call 36; refine (of_one t HTs.out _ _ ?_).mono ?_; (first | (first | exact cell_new _ _ | exact cell_new' _ _ | exact cell_one _ _ _ | exact cell_two _ _ _) | (refine pw_cell_below hb_ ?_; (first | exact cell_new _ _ | exact cell_new' _ _ | exact cell_one _ _ _ | exact cell_two _ _ _)) | (refine pw_cell_below (below_drew hb_) ?_; (first | exact cell_new _ _ | exact cell_new' _ _ | exact cell_one _ _ _ | exact cell_two _ _ _))); rintro e w' ⟨rfl, hb_⟩))
      all_goals
        rw [HV.out]
        go_wp2
        go_ret
        exact ⟨rfl, by repeat (first | exact HL.out | apply below_drew | apply below_alloc | (refine below_step ?_ (by assumption)))⟩

theorem burst_law' (s : ByteArray) (bit v : Int) (h : (Lit.int .u32 v).wf = true) (w : World) :
    Calls Try.prog 11 #[.string s, .int .i64 bit, .int .u32 v] w fun e w' => e = .returned (.bool true) ∧ Below w.heap.size w w' := by
  have e1 : IntKind.u32.min = 0 := by decide
  have e2 : IntKind.u32.max = 4294967295 := by decide
  simp only [Lit.wf, e1, e2, Bool.and_eq_true, decide_eq_true_eq] at h
  obtain ⟨n, rfl⟩ := Int.eq_ofNat_of_zero_le h.1
  exact burst_law s bit n (by omega) w
end Go.Proofs.Ythdnlhcepndncaa.Burst
