/-
  sortesref05: decimal, number: contracts.
  What the references' readers of numbers answer, plain.
  Readers of two numbers, plain: pieces of a text, and what they say.
  sortesref05: number: contract (printed by tools/gen_num.py).
  sortesref05: Text, Read: contracts (printed by tools/gen_num.py).
-/
import Derived.Test.YtoekhpnapnhefaaDoorMG
import Derived.Test.YtoekhpnapnhefaaDoorMK
import Derived.Test.YtoekhpnapnhefaaDoorMA
namespace Go.Proofs.YtoekhpnapnhefaaDoor
open Go.RowKit Go.Shelf
set_option linter.unusedVariables false
set_option linter.unusedSimpArgs false

set_option maxRecDepth 100000 in
set_option maxHeartbeats 1000000 in
theorem rdec5_pos (n : Nat) (w : World) (h0 : 0 < n) (h : n ≤ 9223372036854775807) :
    Calls Tryd.prog 57 #[.int .i64 n] w fun e w' => e = .returned (.string ⟨(Lib.itoa n).toArray⟩) ∧ Only (fun _ => False) w w' := by
  have E := Lib.hid (show Lib.itoa n = Lib.decDigits n by rw [itoa_pos (by omega), Int.toNat_natCast])
  have D0 := Lib.hid (show decR n ++ (ByteArray.mk #[]).data.toList = Lib.decDigits n by unfold decR; rw [if_neg (by omega)]; simp)
  have DL := dec_len20 (m := n) (by omega)
  have b1 : ((n : Int) == 0) = false := by rw [beq_eq_false_iff_ne]; omega
  go_enter Tryd.func57, Tryd.ntmps57
  go_wp2_with fail
  go_loopw [3, 4, 5] (fun sv rv _ wr => ∃ (m : Nat) (t : ByteArray), rv = .int .i64 m ∧ sv = .string t ∧ m ≤ 9223372036854775807 ∧ Hid (decR m ++ t.data.toList = Lib.decDigits n) ∧ Hid (Only (fun _ => False) w wr)) (fun _ rv _ _ => (intOf rv).toNat)
  case atStart => exact ⟨n, ⟨#[]⟩, rfl, rfl, h, D0, Lib.hid (Only.refl _ _)⟩
  case round =>
    obtain ⟨m, t, rfl, rfl, hm, hD, hO⟩ := hrel
    have htz : t.size ≤ 20 := by
      have := congrArg List.length hD.out
      rw [List.length_append] at this
      have h2 : t.data.toList.length = t.size := Array.length_toList
      omega
    rcases Nat.eq_zero_or_pos m with hm0 | hm0
    · subst hm0
      have HR := Lib.hid (show ByteArray.mk (Lib.itoa n).toArray = t by rw [E.out, ← hD.out]; simp [decR])
      go_wp2_with fail
      go_ret
      exact ⟨by rw [HR.out]; rfl, hO.out⟩
    · have b2 : ((m : Int) == 0) = false := by rw [beq_eq_false_iff_ne]; omega
      have ST := Lib.hid (decR_step hm0)
      obtain ⟨q, hq⟩ : ∃ q, q = m / 10 := ⟨_, rfl⟩
      obtain ⟨d, hd⟩ : ∃ d, d = m % 10 := ⟨_, rfl⟩
      rw [← hq, ← hd] at ST
      have hd10 : d < 10 := by omega
      have hqm : q < m := by omega
      have e2 : (m : Int) / 10 = (q : Int) := by omega
      have e3 : (m : Int) % 10 = (d : Int) := by omega
      have CV := Lib.hid (fun W => conv_one W (48 + d) (by omega))
      have e1 : (((48 + d : Nat)) : Int) = 48 + (d : Int) := by omega
      rw [e1] at CV
      obtain ⟨c, hc⟩ : ∃ c, c = UInt8.ofNat (48 + d) := ⟨_, rfl⟩
      rw [← hc] at CV ST
      have ND : Hid (decR q ++ ((⟨#[c]⟩ : ByteArray) ++ t).data.toList = Lib.decDigits n) := Lib.hid (by
        rw [← hD.out, ST.out, ByteArray.data_append, Array.toList_append]; simp)
      have n1 : ¬ (9223372036854775807 < 1 + t.size) := by omega
      have i2 : (d : Int) < 10 := by omega
      have CW := CV.out wr
      have OA := Lib.hid (hO.out.alloc (.cells #[.int .u8 (48 + (d : Int))] 5))
      clear hq hd hc htz e1
      go_wp2_with fail
      go_roundw
      case rel => exact ⟨q, _, rfl, rfl, by omega, ND, OA⟩
      case measure => simp [intOf]; omega
set_option maxRecDepth 100000 in
set_option maxHeartbeats 1000000 in
theorem rdec5_neg (n : Nat) (w : World) (h0 : 0 < n) (h : n ≤ 9223372036854775808) :
    Calls Tryd.prog 57 #[.int .i64 (-(n : Int))] w fun e w' => e = .returned (.string ⟨(Lib.itoa (-(n : Int))).toArray⟩) ∧ Only (fun _ => False) w w' := by
  have E := Lib.hid (show Lib.itoa (-(n : Int)) = 45 :: Lib.decDigits n by rw [itoa_min (by omega), show (-(n : Int)).natAbs = n by omega])
  have D0 := Lib.hid (show decR n ++ (ByteArray.mk #[]).data.toList = Lib.decDigits n by unfold decR; rw [if_neg (by omega)]; simp)
  have DL := dec_len20 (m := n) (by omega)
  have b1 : ((-(n : Int)) == 0) = false := by rw [beq_eq_false_iff_ne]; omega
  have hneg : (-(n : Int)) < 0 := by omega
  obtain ⟨z, hz⟩ : ∃ z, z = (-(n : Int)) := ⟨_, rfl⟩
  rw [← hz] at E b1 hneg ⊢
  have HZ := Lib.hid hz
  clear hz
  go_enter Tryd.func57, Tryd.ntmps57
  go_wp2_with fail
  go_loopw [3, 4, 5] (fun sv rv _ wr => ∃ (m : Nat) (t : ByteArray), rv = .int .i64 (-(m : Int)) ∧ sv = .string t ∧ m ≤ 9223372036854775808 ∧ Hid (decR m ++ t.data.toList = Lib.decDigits n) ∧ Hid (Only (fun _ => False) w wr)) (fun _ rv _ _ => (-(intOf rv)).toNat)
  case atStart => exact ⟨n, ⟨#[]⟩, by rw [HZ.out], rfl, h, D0, Lib.hid (Only.refl _ _)⟩
  case round =>
    obtain ⟨m, t, rfl, rfl, hm, hD, hO⟩ := hrel
    have htz : t.size ≤ 20 := by
      have := congrArg List.length hD.out
      rw [List.length_append] at this
      have h2 : t.data.toList.length = t.size := Array.length_toList
      omega
    rcases Nat.eq_zero_or_pos m with hm0 | hm0
    · subst hm0
      have HR := Lib.hid (show ByteArray.mk (Lib.itoa z).toArray = ⟨#[45]⟩ ++ t by
        rw [E.out, ← hD.out]
        apply ByteArray.ext
        simp [decR, ByteArray.data_append])
      have n1 : ¬ (9223372036854775807 < 1 + t.size) := by omega
      go_wp2_with fail
      go_ret
      exact ⟨by rw [HR.out]; rfl, hO.out⟩
    · have b2 : ((-(m : Int)) == 0) = false := by rw [beq_eq_false_iff_ne]; omega
      have ST := Lib.hid (decR_step hm0)
      obtain ⟨q1, q2⟩ := quo10 m
      obtain ⟨q, hq⟩ : ∃ q, q = m / 10 := ⟨_, rfl⟩
      obtain ⟨d, hd⟩ : ∃ d, d = m % 10 := ⟨_, rfl⟩
      rw [← hq, ← hd] at ST
      rw [← hq] at q1
      rw [← hd] at q2
      have hd10 : d < 10 := by omega
      have hqm : q < m := by omega
      have hq9 : q ≤ 922337203685477580 := by omega
      have CV := Lib.hid (fun W => conv_one W (48 + d) (by omega))
      have e1 : (((48 + d : Nat)) : Int) = 48 + (d : Int) := by omega
      rw [e1] at CV
      obtain ⟨c, hc⟩ : ∃ c, c = UInt8.ofNat (48 + d) := ⟨_, rfl⟩
      rw [← hc] at CV ST
      have ND : Hid (decR q ++ ((⟨#[c]⟩ : ByteArray) ++ t).data.toList = Lib.decDigits n) := Lib.hid (by
        rw [← hD.out, ST.out, ByteArray.data_append, Array.toList_append]; simp)
      have n1 : ¬ (9223372036854775807 < 1 + t.size) := by omega
      have CW := CV.out wr
      have OA := Lib.hid (hO.out.alloc (.cells #[.int .u8 (48 + (d : Int))] 5))
      have hr1 : -9223372036854775808 ≤ (-(m : Int)) := by omega
      obtain ⟨y, hy⟩ : ∃ y, y = (-(m : Int)) := ⟨_, rfl⟩
      rw [← hy] at q1 q2 b2 hr1 ⊢
      have HY := Lib.hid hy
      clear hq hd hc htz e1 hy
      by_cases hd0 : 0 < d
      · have t1 : (-(d : Int)) < 0 := by omega
        have i2 : (d : Int) < 10 := by omega
        go_wp2_with fail
        go_roundw
        case rel => exact ⟨q, _, rfl, rfl, by omega, ND, OA⟩
        case measure => have := HY.out; simp [intOf]; omega
      · obtain rfl : d = 0 := by omega
        have e48 : (48 : Int) + ((0 : Nat) : Int) = 48 := by omega
        rw [e48] at CW OA
        go_wp2_with fail
        go_roundw
        case rel => exact ⟨q, _, rfl, rfl, by omega, ND, OA⟩
        case measure => have := HY.out; simp [intOf]; omega
set_option maxRecDepth 100000 in
theorem rdec5_zero (w : World) :
    Calls Tryd.prog 57 #[.int .i64 0] w fun e w' => e = .returned (.string ⟨(Lib.itoa 0).toArray⟩) ∧ Only (fun _ => False) w w' := by
  have HR := Lib.hid (show ByteArray.mk (Lib.itoa 0).toArray = ⟨#[48]⟩ by decide +kernel)
  go_enter Tryd.func57, Tryd.ntmps57
  go_wp2_with fail
  go_ret
  exact ⟨by rw [HR.out]; rfl, Only.refl _ _⟩
theorem rdec5_any (n : Int) (w : World) (h : I64 n) :
    Calls Tryd.prog 57 #[.int .i64 n] w fun e w' => e = .returned (.string ⟨(Lib.itoa n).toArray⟩) ∧ Only (fun _ => False) w w' := by
  unfold I64 at h
  rcases Int.lt_trichotomy n 0 with h0 | h0 | h0
  · obtain ⟨M, hM⟩ : ∃ M : Nat, n = -(M : Int) := ⟨n.natAbs, by omega⟩
    subst hM
    exact rdec5_neg M w (by omega) (by omega)
  · subst h0; exact rdec5_zero w
  · obtain ⟨N, rfl⟩ := Int.eq_ofNat_of_zero_le (Int.le_of_lt h0)
    exact rdec5_pos N w (by omega) (by omega)
end Go.Proofs.YtoekhpnapnhefaaDoor

namespace Go.Proofs.YtoekhpnapnhefaaDoor
open Go.RowKit Go.Shelf
set_option linter.unusedVariables false
set_option linter.unusedSimpArgs false

/-- what such a reader answers at s -/
def NumAns (s : List UInt8) (v : Int) (b : Bool) : Prop := I64 v ∧ (b = true → IsNum s v) ∧ (∀ m, IsNum s m → v = m ∧ b = true)
/-- how such a reader ends -/
def NumOut (s : List UInt8) (e : Ending) : Prop := ∃ (v : Int) (b : Bool), e = .returned (.tuple #[.int .i64 v, .bool b]) ∧ NumAns s v b
theorem out_no {s : List UInt8} {v b : Value} (hv : v = .int .i64 0) (hb : b = .bool false) (h : ∀ m, ¬ IsNum s m) : NumOut s (.returned (.tuple #[v, b])) := ⟨0, false, by rw [hv, hb], ⟨by unfold I64; omega, (fun h => by cases h), fun m hm => absurd hm (h m)⟩⟩
theorem ans_no {s : List UInt8} (h : ∀ m, ¬ IsNum s m) : NumAns s 0 false := ⟨by unfold I64; omega, (fun h => by cases h), fun m hm => absurd hm (h m)⟩
theorem ans_not {s : List UInt8} {v : Int} (hv : I64 v) (h : ∀ m, ¬ IsNum s m) : NumAns s v false := ⟨hv, (fun h => by cases h), fun m hm => absurd hm (h m)⟩
theorem ans_yes {s : List UInt8} {v : Int} (h : IsNum s v) : NumAns s v true := ⟨h.1, fun _ => h, fun m hm => ⟨isNum_uniq h hm, rfl⟩⟩
theorem num_len {s : List UInt8} {m : Int} (h : IsNum s m) : atM s < s.length ∧ s.length - atM s ≤ 19 ∧ (∀ x ∈ s.drop (atM s), IsDig x) ∧ numOf s = m := by
  obtain ⟨ds, h1, h2, h3, h4, h5, h6⟩ := numeral h.1
  rw [← h.2] at h1 h2 h6
  have hl := congrArg List.length h2
  rw [List.length_drop] at hl
  have hp : 0 < ds.length := List.length_pos_iff.2 h3
  exact ⟨by omega, by omega, by rw [h2]; exact h5, h6⟩
theorem getD_in_drop {l : List UInt8} {c k : Nat} (h : c ≤ k) (hk : k < l.length) : l.getD k 0 ∈ l.drop c := by
  have h2 : l.getD k 0 = l[k] := by simp [List.getD_eq_getElem?_getD, hk]
  rw [h2, List.mem_iff_getElem]
  refine ⟨k - c, by rw [List.length_drop]; omega, ?_⟩
  rw [List.getElem_drop]
  congr 1
  omega
theorem atM_bytes {s : ByteArray} (h : 0 < s.size) : atM s.data.toList = if bAt s 0 = 45 then 1 else 0 := by
  have hl : s.data.toList.length = s.size := Array.length_toList
  unfold atM bAt
  match hd : s.data.toList with
  | [] => rw [hd] at hl; simp at hl; omega
  | c :: r =>
    rw [List.head?_cons]
    by_cases hc : c = 45
    · subst hc; rfl
    · rw [if_neg (by simpa using hc), if_neg]
      intro h
      have h2 : ((c.toNat : Nat) : Int) = 45 := h
      exact hc (UInt8.toNat_inj.1 (by rw [show c.toNat = 45 by omega]; rfl))
end Go.Proofs.YtoekhpnapnhefaaDoor

namespace Go.Proofs.YtoekhpnapnhefaaDoor
open Go.RowKit Go.Shelf
set_option linter.unusedVariables false
set_option linter.unusedSimpArgs false

theorem take_snocB (l : List UInt8) (k : Nat) (h : k < l.length) : l.take (k + 1) = l.take k ++ [l.getD k 0] := by
  rw [List.take_succ_eq_append_getElem h]; simp [List.getD_eq_getElem?_getD, h]
theorem drop_cons (l : List UInt8) (k : Nat) (h : k < l.length) : l.drop k = l.getD k 0 :: l.drop (k + 1) := by
  rw [List.drop_eq_getElem_cons h]; simp [List.getD_eq_getElem?_getD, h]
theorem pieces (s : ByteArray) (k : Nat) (h : k < s.size) : (s.extract 0 k).data.toList = s.data.toList.take k ∧ (s.extract (k + 1) s.size).data.toList = s.data.toList.drop (k + 1) := by
  have hl : s.data.toList.length = s.size := Array.length_toList
  constructor
  · rw [ByteArray.data_extract, Array.toList_extract, List.extract_eq_take_drop, List.drop_zero, Nat.sub_zero]
  · rw [ByteArray.data_extract, Array.toList_extract, List.extract_eq_take_drop]
    exact List.take_of_length_le (by rw [List.length_drop]; omega)
section
variable {s a b : List UInt8} {v u v1 v2 : Int} {q b1 b2 : Bool}
theorem rd_bad (hs : s = a ++ 46 :: b ∧ ∀ x ∈ a, x ≠ 46) (h1 : NumAns a v1 b1) (h2 : NumAns b v2 b2) (hb : b1 = false ∨ b2 = false) (h : Rd s v u q) : v = 0 ∧ u = 0 ∧ q = false := by
  rcases h with ⟨_, h⟩ | ⟨h3, h4, h5, _⟩
  · exfalso
    have hn := (rd_nums hs.2).1 (hs.1 ▸ h)
    have e1 := (h1.2.2 _ hn.1).2
    have e2 := (h2.2.2 _ hn.2).2
    rcases hb with h6 | h6
    · rw [h6] at e1; cases e1
    · rw [h6] at e2; cases e2
  · exact ⟨h4, h5, h3⟩
theorem rd_good (hs : s = a ++ 46 :: b ∧ ∀ x ∈ a, x ≠ 46) (h1 : NumAns a v1 true) (h2 : NumAns b v2 true) (h : Rd s v u q) : v = v1 ∧ u = v2 ∧ q = true := by
  have ht : IsTxt s v1 v2 := by rw [hs.1]; exact (rd_nums hs.2).2 ⟨h1.2.1 rfl, h2.2.1 rfl⟩
  exact h.uniq (.inl ⟨rfl, ht⟩)
theorem rd_none (hs : ∀ x ∈ s, x ≠ 46) (h : Rd s v u q) : v = 0 ∧ u = 0 ∧ q = false := by
  rcases h with ⟨_, h⟩ | ⟨h3, h4, h5, _⟩
  · exact absurd h (rd_dotless hs _ _)
  · exact ⟨h4, h5, h3⟩
end
end Go.Proofs.YtoekhpnapnhefaaDoor

namespace Go.Proofs.YtoekhpnapnhefaaDoor
open Go.RowKit Go.Shelf
set_option linter.unusedVariables false
set_option linter.unusedSimpArgs false

set_option maxRecDepth 100000 in
set_option maxHeartbeats 4000000 in
theorem rnum5_any (s : ByteArray) (w : World) (hs : s.size ≤ 140737488355328) :
    Calls Tryd.prog 58 #[.string s] w fun e w' => NumOut s.data.toList e ∧ Only (fun _ => False) w w' := by
  have hb := bAt_get s
  have HL := Lib.hid (show s.data.toList.length = s.size from Array.length_toList)
  rcases Nat.eq_zero_or_pos s.size with h0 | h0
  · have BAD := Lib.hid (show ∀ m, ¬ IsNum s.data.toList m from fun m h => by
      have := (num_len h).1
      rw [HL.out] at this
      omega)
    have hsz : (s.size : Int) = 0 := by omega
    clear h0
    go_enter Tryd.func58, Tryd.ntmps58
    go_wp2_with fail
    refine bodyPost_ret (results_tmp2 rfl _ _ _) rfl ⟨⟨0, false, rfl, ans_no BAD.out⟩, Only.refl _ _⟩
  · have hp : (0 : Int) < (s.size : Int) := by omega
    have HA0 := Lib.hid (atM_bytes (s := s) h0)
    by_cases hm : bAt s 0 = 45
    · have HA : Hid (atM s.data.toList = 1) := Lib.hid (by rw [HA0.out, if_pos hm])
      by_cases h1 : s.size = 1
      · have BAD := Lib.hid (show ∀ m, ¬ IsNum s.data.toList m from fun m h => by
          have := (num_len h).1
          rw [HL.out, HA.out] at this
          omega)
        have hsz : (s.size : Int) = 1 := by omega
        clear h0 h1
        go_enter Tryd.func58, Tryd.ntmps58
        go_wp2_with fail
        refine bodyPost_ret (results_tmp2 rfl _ _ _) rfl ⟨⟨0, false, rfl, ans_no BAD.out⟩, Only.refl _ _⟩
      · by_cases h20 : s.size ≤ 20
        · have q1 : (1 : Int) < (s.size : Int) := by omega
          have q1' : ((1 : Int) == (s.size : Int)) = false := by rw [beq_eq_false_iff_ne]; omega
          have q2 : (s.size : Int) ≤ 20 := by omega
          go_enter Tryd.func58, Tryd.ntmps58
          go_wp2_with fail
          go_loop [2, 3, 5, 6] (fun _ _ nv kv => ∃ (k : Nat) (N : Int), 1 ≤ k ∧ k ≤ s.size ∧ kv = .int .i64 k ∧ nv = .int .i64 N ∧ I64 N ∧ Hid (N = IntKind.i64.wrap (-(valD ((s.data.toList.take k).drop 1) : Int))) ∧ Hid (∀ x ∈ (s.data.toList.take k).drop 1, IsDig x)) (fun _ _ _ kv => s.size - (intOf kv).toNat)
          case atStart => exact ⟨1, 0, Nat.le_refl _, by omega, rfl, rfl, by unfold I64; omega, Lib.hid (by rw [List.drop_of_length_le (by rw [List.length_take]; omega)]; decide), Lib.hid (by rw [List.drop_of_length_le (by rw [List.length_take]; omega)]; intro x hx; cases hx)⟩
          case round =>
            obtain ⟨k, N, hk1, hk2, rfl, rfl, hN, HN, HD⟩ := hrel
            by_cases hlt : k < s.size
            · have r0 := bAt_range s k
              have EB := Lib.hid (show bAt s k = (s.data.toList.getD k 0).toNat from rfl)
              have TS := Lib.hid (take_drop_snoc s.data.toList 1 k hk1 (by rw [HL.out]; exact hlt))
              have MEM := Lib.hid (show s.data.toList.getD k 0 ∈ s.data.toList.drop 1 from getD_in_drop hk1 (by rw [HL.out]; exact hlt))
              have i1 : (k : Int) < (s.size : Int) := by omega
              by_cases hd : 48 ≤ bAt s k ∧ bAt s k ≤ 57
              · have hd1 := hd.1
                have hd2 := hd.2
                have ND := Lib.hid (show ∀ x ∈ (s.data.toList.take (k + 1)).drop 1, IsDig x from fun x hx => by
                  rw [TS.out] at hx
                  rcases List.mem_append.1 hx with h | h
                  · exact HD.out x h
                  · rw [List.mem_singleton] at h; subst h; unfold IsDig; have := EB.out; omega)
                obtain ⟨N1, e1⟩ : ∃ N1, IntKind.i64.wrap (10 * N) = N1 := ⟨_, rfl⟩
                obtain ⟨N2, e2⟩ : ∃ N2, IntKind.i64.wrap (N1 - (bAt s k - 48)) = N2 := ⟨_, rfl⟩
                have NN := Lib.hid (show N2 = IntKind.i64.wrap (-(valD ((s.data.toList.take (k + 1)).drop 1) : Int)) by
                  rw [TS.out, valD_snoc, ← e2, ← e1, HN.out, neg_step]
                  congr 1
                  have := EB.out
                  omega)
                have w1 := wrap_range (N1 - (bAt s k - 48))
                rw [e2] at w1
                clear hd
                go_wp2_with fail
                go_round
                case rel => exact ⟨k + 1, N2, by omega, by omega, by go_num, rfl, w1, NN, ND⟩
                case measure => simp [intOf]; omega
              · have BAD := Lib.hid (show ∀ m, ¬ IsNum s.data.toList m from fun m h => by
                  have := (num_len h).2.2.1 _ (by rw [HA.out]; exact MEM.out)
                  unfold IsDig at this
                  have := EB.out
                  omega)
                by_cases hd1 : bAt s k < 48
                · clear hd
                  go_wp2_with fail
                  refine bodyPost_ret (results_tmp2 rfl _ _ _) rfl ⟨⟨0, false, rfl, ans_no BAD.out⟩, Only.refl _ _⟩
                · have hd2 : 57 < bAt s k := by omega
                  clear hd
                  go_wp2_with fail
                  refine bodyPost_ret (results_tmp2 rfl _ _ _) rfl ⟨⟨0, false, rfl, ans_no BAD.out⟩, Only.refl _ _⟩
            · obtain rfl : k = s.size := by omega
              have HF := HN.out
              rw [List.take_of_length_le (by rw [HL.out]; exact Nat.le_refl _)] at HF
              obtain ⟨M, e1⟩ : ∃ M, M = N := ⟨_, rfl⟩
              have HM := Lib.hid (show M = numOf s.data.toList by rw [e1, HF]; unfold numOf; rw [HA.out, if_pos rfl])
              subst e1
              have hM : I64 M := by rw [HM.out]; exact numOf_range _
              obtain ⟨t, ht⟩ : ∃ t, t = ByteArray.mk (Lib.itoa M).toArray := ⟨_, rfl⟩
              have DC := Lib.hid (fun W => rdec5_any M W hM)
              rw [← ht] at DC
              have HT := Lib.hid ht
              clear HF ht
              by_cases he : t = s
              · have YES := Lib.hid (show IsNum s.data.toList M from ⟨hM, by rw [← he, HT.out]⟩)
                clear hM
                subst he
                go_wp2_with fail
                refine (DC.out _).mono ?_
                rintro e w1 ⟨rfl, oo⟩
                go_wp2_with fail
                refine bodyPost_ret (results_tmp2 rfl _ _ _) rfl ⟨⟨M, true, rfl, ans_yes YES.out⟩, oo⟩
              · have BAD := Lib.hid (show ∀ m, ¬ IsNum s.data.toList m from fun m h => he (by
                  have := (num_len h).2.2.2
                  apply ByteArray.ext
                  apply Array.toList_inj.1
                  rw [HT.out, HM.out, this, h.2]))
                have hb2 : (t.toList == s.toList) = false := by
                  rw [beq_eq_false_iff_ne, ByteArray.toList_eq, ByteArray.toList_eq]
                  exact fun h => he (ByteArray.ext (Array.toList_inj.1 h))
                have ANS := Lib.hid (ans_not hM BAD.out)
                clear hM he
                go_wp2_with fail
                refine (DC.out _).mono ?_
                rintro e w1 ⟨rfl, oo⟩
                go_wp2_with fail
                refine bodyPost_ret (results_tmp2 rfl _ _ _) rfl ⟨⟨M, false, rfl, ANS.out⟩, oo⟩
        · have BAD := Lib.hid (show ∀ m, ¬ IsNum s.data.toList m from fun m h => by
            have := (num_len h).2.1
            rw [HL.out, HA.out] at this
            omega)
          have q1 : (1 : Int) < (s.size : Int) := by omega
          have q1' : ((1 : Int) == (s.size : Int)) = false := by rw [beq_eq_false_iff_ne]; omega
          have q2 : (20 : Int) < (s.size : Int) := by omega
          clear h0 h1 h20
          go_enter Tryd.func58, Tryd.ntmps58
          go_wp2_with fail
          refine bodyPost_ret (results_tmp2 rfl _ _ _) rfl ⟨⟨0, false, rfl, ans_no BAD.out⟩, Only.refl _ _⟩
    · have HA : Hid (atM s.data.toList = 0) := Lib.hid (by rw [HA0.out, if_neg hm])
      have hne : ¬ s = ByteArray.empty := fun h => by rw [h] at h0; exact absurd h0 (by decide)
      have hm2 : (bAt s 0 == 45) = false := by rw [beq_eq_false_iff_ne]; exact hm
      have q1' : ((0 : Int) == (s.size : Int)) = false := by rw [beq_eq_false_iff_ne]; omega
      by_cases h20 : s.size ≤ 19
      · have q2 : (s.size : Int) ≤ 19 := by omega
        clear hm
        go_enter Tryd.func58, Tryd.ntmps58
        go_wp2_with fail
        go_loop [2, 3, 5, 6] (fun _ _ nv kv => ∃ (k : Nat) (N : Int), 0 ≤ k ∧ k ≤ s.size ∧ kv = .int .i64 k ∧ nv = .int .i64 N ∧ I64 N ∧ Hid (N = IntKind.i64.wrap (-(valD ((s.data.toList.take k).drop 0) : Int))) ∧ Hid (∀ x ∈ (s.data.toList.take k).drop 0, IsDig x)) (fun _ _ _ kv => s.size - (intOf kv).toNat)
        case atStart => exact ⟨0, 0, Nat.le_refl _, by omega, rfl, rfl, by unfold I64; omega, Lib.hid (by rw [List.drop_of_length_le (by rw [List.length_take]; omega)]; decide), Lib.hid (by rw [List.drop_of_length_le (by rw [List.length_take]; omega)]; intro x hx; cases hx)⟩
        case round =>
          obtain ⟨k, N, hk1, hk2, rfl, rfl, hN, HN, HD⟩ := hrel
          by_cases hlt : k < s.size
          · have r0 := bAt_range s k
            have EB := Lib.hid (show bAt s k = (s.data.toList.getD k 0).toNat from rfl)
            have TS := Lib.hid (take_drop_snoc s.data.toList 0 k hk1 (by rw [HL.out]; exact hlt))
            have MEM := Lib.hid (show s.data.toList.getD k 0 ∈ s.data.toList.drop 0 from getD_in_drop hk1 (by rw [HL.out]; exact hlt))
            have i1 : (k : Int) < (s.size : Int) := by omega
            by_cases hd : 48 ≤ bAt s k ∧ bAt s k ≤ 57
            · have hd1 := hd.1
              have hd2 := hd.2
              have ND := Lib.hid (show ∀ x ∈ (s.data.toList.take (k + 1)).drop 0, IsDig x from fun x hx => by
                rw [TS.out] at hx
                rcases List.mem_append.1 hx with h | h
                · exact HD.out x h
                · rw [List.mem_singleton] at h; subst h; unfold IsDig; have := EB.out; omega)
              obtain ⟨N1, e1⟩ : ∃ N1, IntKind.i64.wrap (10 * N) = N1 := ⟨_, rfl⟩
              obtain ⟨N2, e2⟩ : ∃ N2, IntKind.i64.wrap (N1 - (bAt s k - 48)) = N2 := ⟨_, rfl⟩
              have NN := Lib.hid (show N2 = IntKind.i64.wrap (-(valD ((s.data.toList.take (k + 1)).drop 0) : Int)) by
                rw [TS.out, valD_snoc, ← e2, ← e1, HN.out, neg_step]
                congr 1
                have := EB.out
                omega)
              have w1 := wrap_range (N1 - (bAt s k - 48))
              rw [e2] at w1
              clear hd
              go_wp2_with fail
              go_round
              case rel => exact ⟨k + 1, N2, by omega, by omega, by go_num, rfl, w1, NN, ND⟩
              case measure => simp [intOf]; omega
            · have BAD := Lib.hid (show ∀ m, ¬ IsNum s.data.toList m from fun m h => by
                have := (num_len h).2.2.1 _ (by rw [HA.out]; exact MEM.out)
                unfold IsDig at this
                have := EB.out
                omega)
              by_cases hd1 : bAt s k < 48
              · clear hd
                go_wp2_with fail
                refine bodyPost_ret (results_tmp2 rfl _ _ _) rfl ⟨⟨0, false, rfl, ans_no BAD.out⟩, Only.refl _ _⟩
              · have hd2 : 57 < bAt s k := by omega
                clear hd
                go_wp2_with fail
                refine bodyPost_ret (results_tmp2 rfl _ _ _) rfl ⟨⟨0, false, rfl, ans_no BAD.out⟩, Only.refl _ _⟩
          · obtain rfl : k = s.size := by omega
            have HF := HN.out
            rw [List.take_of_length_le (by rw [HL.out]; exact Nat.le_refl _)] at HF
            obtain ⟨M, e1⟩ : ∃ M, IntKind.i64.wrap (-N) = M := ⟨_, rfl⟩
            have HM := Lib.hid (show M = numOf s.data.toList by rw [← e1, HF, List.drop_zero, neg_neg]; unfold numOf; rw [HA.out, if_neg (by omega)])
            have hM : I64 M := by rw [HM.out]; exact numOf_range _
            obtain ⟨t, ht⟩ : ∃ t, t = ByteArray.mk (Lib.itoa M).toArray := ⟨_, rfl⟩
            have DC := Lib.hid (fun W => rdec5_any M W hM)
            rw [← ht] at DC
            have HT := Lib.hid ht
            clear HF ht
            by_cases he : t = s
            · have YES := Lib.hid (show IsNum s.data.toList M from ⟨hM, by rw [← he, HT.out]⟩)
              clear hM
              subst he
              go_wp2_with fail
              refine (DC.out _).mono ?_
              rintro e w1 ⟨rfl, oo⟩
              go_wp2_with fail
              refine bodyPost_ret (results_tmp2 rfl _ _ _) rfl ⟨⟨M, true, rfl, ans_yes YES.out⟩, oo⟩
            · have BAD := Lib.hid (show ∀ m, ¬ IsNum s.data.toList m from fun m h => he (by
                have := (num_len h).2.2.2
                apply ByteArray.ext
                apply Array.toList_inj.1
                rw [HT.out, HM.out, this, h.2]))
              have hb2 : (t.toList == s.toList) = false := by
                rw [beq_eq_false_iff_ne, ByteArray.toList_eq, ByteArray.toList_eq]
                exact fun h => he (ByteArray.ext (Array.toList_inj.1 h))
              have ANS := Lib.hid (ans_not hM BAD.out)
              clear hM he
              go_wp2_with fail
              refine (DC.out _).mono ?_
              rintro e w1 ⟨rfl, oo⟩
              go_wp2_with fail
              refine bodyPost_ret (results_tmp2 rfl _ _ _) rfl ⟨⟨M, false, rfl, ANS.out⟩, oo⟩
      · have BAD := Lib.hid (show ∀ m, ¬ IsNum s.data.toList m from fun m h => by
          have := (num_len h).2.1
          rw [HL.out, HA.out] at this
          omega)
        have q2 : (19 : Int) < (s.size : Int) := by omega
        clear h0 h20 hm
        go_enter Tryd.func58, Tryd.ntmps58
        go_wp2_with fail
        refine bodyPost_ret (results_tmp2 rfl _ _ _) rfl ⟨⟨0, false, rfl, ans_no BAD.out⟩, Only.refl _ _⟩
end Go.Proofs.YtoekhpnapnhefaaDoor

namespace Go.Proofs.YtoekhpnapnhefaaDoor
open Go.RowKit Go.Shelf
set_option linter.unusedVariables false
set_option linter.unusedSimpArgs false

theorem zeroSig5 (w : World) : (zeroValue 51).run Tryd.prog w = .ok (.agg [.int .i64 0, .int .i64 0].toArray) w := by kernel_rfl
set_option maxRecDepth 100000 in
theorem rtext5_any (r s : Int) (hr : I64 r) (hs : I64 s) (w : World) :
    Calls Tryd.prog 28 #[.agg #[.int .i64 r, .int .i64 s]] w fun e w' => e = .returned (.string ⟨(txt r s).toArray⟩) ∧ Only (fun _ => False) w w' := by
  have A := Lib.hid (At.new w 51 [.int .i64 r, .int .i64 s])
  have O := Lib.hid ((Only.refl (fun _ => False) w).alloc (.cells [.int .i64 r, .int .i64 s].toArray 51))
  obtain ⟨x, hx⟩ : ∃ x, x = ByteArray.mk (Lib.itoa r).toArray := ⟨_, rfl⟩
  obtain ⟨y, hy⟩ : ∃ y, y = ByteArray.mk (Lib.itoa s).toArray := ⟨_, rfl⟩
  have hxz : x.size ≤ 21 := by rw [hx]; exact Lib.itoa_length_le r hr.1 hr.2
  have hyz : y.size ≤ 21 := by rw [hy]; exact Lib.itoa_length_le s hs.1 hs.2
  obtain ⟨t, ht⟩ : ∃ t, t = x ++ ByteArray.mk #[46] ++ y := ⟨_, rfl⟩
  have HT := Lib.hid (show ByteArray.mk (txt r s).toArray = t by rw [ht, hx, hy, ByteArray.mk_append_mk', ByteArray.mk_append_mk']; simp [txt])
  have HTE := Lib.hid ht.symm
  have hneg1 : ¬ (9223372036854775807 < x.size + 1) := by omega
  have hneg2 : ¬ (9223372036854775807 < x.size + 1 + y.size) := by omega
  have IA := Lib.hid (fun W => rdec5_any r W hr)
  have IB := Lib.hid (fun W => rdec5_any s W hs)
  rw [← hx] at IA
  rw [← hy] at IB
  clear hx hy ht hr hs hxz hyz
  go_enter Tryd.func28, Tryd.ntmps28
  go_wp2_with fail
  obtain ⟨w1, hw1⟩ : ∃ w1, w1 = w.alloc (.cells #[.int .i64 r, .int .i64 s] 51) := ⟨_, rfl⟩
  rw [← hw1]
  have A1 : Hid (At w1 w.heap.size 51 [.int .i64 r, .int .i64 s]) := Lib.hid (by rw [hw1]; exact A.out)
  have O1 : Hid (Only (fun _ => False) w w1) := Lib.hid (by rw [hw1]; exact O.out)
  clear hw1 A O
  obtain ⟨X, F, FM⟩ := fam w1
  have NE := FM.ne
  have c0 := FM.cell (A1.out.cell (i := 0) rfl)
  have c1 := FM.cell (A1.out.cell (i := 1) rfl)
  refine FM.region (by kernel_rfl) (by kernel_rfl) ?_
  repeat (first | go_big_quiet_step ((first | (go_at_call_of 57 (Value.int IntKind.i64 r); with_reducible exact FM.call (IA.out _)) | (go_at_call_of 57 (Value.int IntKind.i64 s); with_reducible exact FM.call (IB.out _)))) | quiet_step (fail))
  refine wpQuiet_nil ?_
  intro x1
  go_wp2_with fail
  go_ret
  exact ⟨by rw [HT.out, ← HTE.out]; rfl, O1.out.trans (FM.own x1) (fun _ _ h => h)⟩
set_option maxRecDepth 100000 in
set_option maxHeartbeats 4000000 in
theorem rread5_any (s : ByteArray) (v u : Int) (b : Bool) (w : World) (h : Rd s.data.toList v u b) (hs : s.size ≤ 140737488355328) :
    Calls Tryd.prog 29 #[.string s] w fun e w' => e = .returned (.tuple #[.agg #[.int .i64 v, .int .i64 u], .bool b]) ∧ Only (fun _ => False) w w' := by
  have hb := bAt_get s
  have HL := Lib.hid (show s.data.toList.length = s.size from Array.length_toList)
  have HR := Lib.hid h
  clear h
  go_enter Tryd.func29, Tryd.ntmps29
  go_wp2_with (with_reducible refine wpl_alloc_all (o := ⟨some 2, _, _, _, _, _⟩) rfl _ rfl _ (zeroSig5 _) ?_; intro w1 h1 o1 s1; have A := Lib.hid h1; have O := Lib.hid o1; clear h1 o1 s1)
  go_loop [3, 4, 5, 6, 7, 8] (fun _ kv _ _ _ _ => ∃ (k : Nat), k ≤ s.size ∧ kv = .int .i64 k ∧ Hid (∀ x ∈ s.data.toList.take k, x ≠ 46)) (fun _ kv _ _ _ _ => s.size - (intOf kv).toNat)
  case atStart => exact ⟨0, by omega, rfl, Lib.hid (by rw [List.take_zero]; intro x hx; cases hx)⟩
  case round =>
    obtain ⟨k, hk, rfl, HD⟩ := hrel
    by_cases hlt : k < s.size
    · have r0 := bAt_range s k
      have EB0 := Lib.hid (show bAt s k = (s.data.toList.getD k 0).toNat from rfl)
      have TS := Lib.hid (take_snocB s.data.toList k (by rw [HL.out]; exact hlt))
      have i1 : (k : Int) < (s.size : Int) := by omega
      by_cases hd : bAt s k = 46
      · have PC := Lib.hid (show s.data.toList = (s.extract 0 k).data.toList ++ 46 :: (s.extract (k + 1) s.size).data.toList ∧ (∀ x ∈ (s.extract 0 k).data.toList, x ≠ 46) from by
          obtain ⟨e1, e2⟩ := pieces s k hlt
          rw [e1, e2]
          refine ⟨?_, HD.out⟩
          conv => lhs; rw [← List.take_append_drop k s.data.toList]
          rw [drop_cons s.data.toList k (by rw [HL.out]; exact hlt), show s.data.toList.getD k 0 = 46 from UInt8.toNat_inj.1 (by have := EB0.out; show (s.data.toList.getD k 0).toNat = 46; omega)])
        have NA := Lib.hid (fun W => rnum5_any (s.extract 0 k) W (by rw [ByteArray.size_extract]; omega))
        have NB := Lib.hid (fun W => rnum5_any (s.extract (k + 1) s.size) W (by rw [ByteArray.size_extract]; omega))
        generalize hx : (s.extract 0 k) = xa at *
        generalize hy : (s.extract (k + 1) s.size) = xb at *
        have HX := Lib.hid hx
        have HY := Lib.hid hy
        have q1 : (k : Int) + 1 ≤ (s.size : Int) := by omega
        have t1 : ((k : Int) + 1).toNat = k + 1 := by omega
        clear hx hy
        go_wp2_with fail
        rw [HX.out]
        refine (NA.out _).mono ?_
        rintro e w2 ⟨⟨v1, b1, rfl, ha⟩, oo⟩
        have HA := Lib.hid ha
        replace O := Lib.hid (O.out.trans oo (fun _ _ h => h))
        replace A := Lib.hid (A.out.only oo (fun h => h))
        clear oo ha
        go_wp2_with fail
        rw [HY.out]
        refine (NB.out _).mono ?_
        rintro e w3 ⟨⟨v2, b2, rfl, ha⟩, oo⟩
        have HB := Lib.hid ha
        replace O := Lib.hid (O.out.trans oo (fun _ _ h => h))
        replace A := Lib.hid (A.out.only oo (fun h => h))
        clear oo ha
        have c0 := A.out.cell (i := 0) rfl
        have c1 := A.out.cell (i := 1) rfl
        have f0 := A.out.frozen 0
        have f1 := A.out.frozen 1
        cases b1
        · have BD := rd_bad PC.out HA.out HB.out (.inl rfl) HR.out
          obtain ⟨x1, x2, x3⟩ := BD
          have EV := Lib.hid x1
          have EU := Lib.hid x2
          have EB := Lib.hid x3
          clear x1 x2 x3
          go_wp2_with fail
          refine bodyPost_ret (results_cell_tmp rfl _ w.heap.size rfl 51 [.int .i64 0, .int .i64 0] _ ((A.out.put 0 (.int .i64 0)).put 1 (.int .i64 0)) Tryd.underlying51 rfl infoSig (.bool false) rfl) rfl ⟨by rw [EV.out, EU.out, EB.out], ?_⟩
          exact (O.out.put (p := ⟨w.heap.size, 0, none⟩) (fun h => absurd h (Nat.lt_irrefl _)) _).put (p := ⟨w.heap.size, 1, none⟩) (fun h => absurd h (Nat.lt_irrefl _)) _
        · cases b2
          · have BD := rd_bad PC.out HA.out HB.out (.inr rfl) HR.out
            obtain ⟨x1, x2, x3⟩ := BD
            have EV := Lib.hid x1
            have EU := Lib.hid x2
            have EB := Lib.hid x3
            clear x1 x2 x3
            go_wp2_with fail
            refine bodyPost_ret (results_cell_tmp rfl _ w.heap.size rfl 51 [.int .i64 0, .int .i64 0] _ ((A.out.put 0 (.int .i64 0)).put 1 (.int .i64 0)) Tryd.underlying51 rfl infoSig (.bool false) rfl) rfl ⟨by rw [EV.out, EU.out, EB.out], ?_⟩
            exact (O.out.put (p := ⟨w.heap.size, 0, none⟩) (fun h => absurd h (Nat.lt_irrefl _)) _).put (p := ⟨w.heap.size, 1, none⟩) (fun h => absurd h (Nat.lt_irrefl _)) _
          · have GD := rd_good PC.out HA.out HB.out HR.out
            obtain ⟨x1, x2, x3⟩ := GD
            have EV := Lib.hid x1
            have EU := Lib.hid x2
            have EB := Lib.hid x3
            clear x1 x2 x3
            go_wp2_with fail
            refine bodyPost_ret (results_cell_tmp rfl _ w.heap.size rfl 51 [.int .i64 v1, .int .i64 v2] _ ((A.out.put 0 (.int .i64 v1)).put 1 (.int .i64 v2)) Tryd.underlying51 rfl infoSig (.bool true) rfl) rfl ⟨by rw [EV.out, EU.out, EB.out], ?_⟩
            exact (O.out.put (p := ⟨w.heap.size, 0, none⟩) (fun h => absurd h (Nat.lt_irrefl _)) _).put (p := ⟨w.heap.size, 1, none⟩) (fun h => absurd h (Nat.lt_irrefl _)) _
      · have b0 : (bAt s k == 46) = false := by rw [beq_eq_false_iff_ne]; exact hd
        have ND := Lib.hid (show ∀ x ∈ s.data.toList.take (k + 1), x ≠ 46 from fun x hx => by
          rw [TS.out] at hx
          rcases List.mem_append.1 hx with h | h
          · exact HD.out x h
          · rw [List.mem_singleton] at h
            subst h
            intro h46
            rw [h46] at EB0
            exact hd EB0.out)
        clear hd
        go_wp2_with fail
        go_round
        case rel => exact ⟨k + 1, by omega, by go_num, ND⟩
        case measure => simp [intOf]; omega
    · obtain rfl : k = s.size := by omega
      have DL := HD.out
      rw [List.take_of_length_le (by rw [HL.out]; exact Nat.le_refl _)] at DL
      have BD := rd_none DL HR.out
      obtain ⟨x1, x2, x3⟩ := BD
      have EV := Lib.hid x1
      have EU := Lib.hid x2
      have EB := Lib.hid x3
      have c0 := A.out.cell (i := 0) rfl
      have c1 := A.out.cell (i := 1) rfl
      have f0 := A.out.frozen 0
      have f1 := A.out.frozen 1
      clear x1 x2 x3 DL
      go_wp2_with fail
      refine bodyPost_ret (results_cell_tmp rfl _ w.heap.size rfl 51 [.int .i64 0, .int .i64 0] _ ((A.out.put 0 (.int .i64 0)).put 1 (.int .i64 0)) Tryd.underlying51 rfl infoSig (.bool false) rfl) rfl ⟨by rw [EV.out, EU.out, EB.out], ?_⟩
      exact (O.out.put (p := ⟨w.heap.size, 0, none⟩) (fun h => absurd h (Nat.lt_irrefl _)) _).put (p := ⟨w.heap.size, 1, none⟩) (fun h => absurd h (Nat.lt_irrefl _)) _
end Go.Proofs.YtoekhpnapnhefaaDoor
