/-
  sortesref03.padded: contract.
-/
import Derived.Laws.IdiomStrings
import Derived.Test.YtjmdfipofgmakaaDoorSv
import Derived.Test.YtjmdfipofgmakaaDoorRb
namespace Go.Proofs.YtjmdfipofgmakaaDoor
open Go.RowKit Go.Shelf
set_option linter.unusedVariables false
set_option linter.unusedSimpArgs false

theorem bytes_append (a : ByteArray) (l : List UInt8) : (a ++ ByteArray.mk l.toArray).data.toList = a.data.toList ++ l := by
  rw [ByteArray.data_append]; simp
/-- the message so far: some zeros -/
def Pad (s : ByteArray) (t : ByteArray) (j : Nat) : Prop := t.data.toList = s.data.toList ++ 0x80 :: List.replicate j 0 ∧ t.size = s.size + 1 + j
theorem pad_start (s : ByteArray) : Pad s (s ++ ByteArray.mk #[128]) 0 := by
  refine ⟨by rw [show (ByteArray.mk #[128]) = ByteArray.mk ([128] : List UInt8).toArray from rfl, bytes_append]; rfl, ?_⟩
  rw [ByteArray.size_append]; rfl
theorem pad_next {s t : ByteArray} {j : Nat} (h : Pad s t j) : Pad s (t ++ ByteArray.mk #[0]) (j + 1) := by
  obtain ⟨h1, h2⟩ := h
  refine ⟨?_, by rw [ByteArray.size_append, h2]; show _ + 1 = _; omega⟩
  rw [show (ByteArray.mk #[0]) = ByteArray.mk ([0] : List UInt8).toArray from rfl, bytes_append, h1, List.append_assoc, List.cons_append, ← List.replicate_succ']
/-- the length behind the zeros, its first i bytes -/
def len8 (n : Nat) : List UInt8 := by4 ((n * 8 / 4294967296 : Nat) : Int) ++ by4 ((n * 8 % 4294967296 : Nat) : Int)
theorem len8_get (n i : Nat) (h : i < 8) : (len8 n).take (i + 1) = (len8 n).take i ++ [UInt8.ofNat ((n * 8 : Nat) / 2 ^ (8 * (7 - i)) % 256)] := by
  have e : ∀ (x : Nat), by4 (x : Int) = [UInt8.ofNat (x / 16777216 % 256), UInt8.ofNat (x / 65536 % 256), UInt8.ofNat (x / 256 % 256), UInt8.ofNat (x % 256)] := fun x => by
    unfold by4
    have e1 : ((x : Int) / 16777216 % 256).toNat = x / 16777216 % 256 := by omega
    have e2 : ((x : Int) / 65536 % 256).toNat = x / 65536 % 256 := by omega
    have e3 : ((x : Int) / 256 % 256).toNat = x / 256 % 256 := by omega
    have e4 : ((x : Int) % 256).toNat = x % 256 := by omega
    rw [e1, e2, e3, e4]
  unfold len8
  rw [e, e]
  generalize n * 8 = m
  match i, h with
  | 0, _ => simp only [List.cons_append, List.nil_append, List.take_succ_cons, List.take_zero] <;> congr 2 <;> (show _ = m / 72057594037927936 % 256; omega)
  | 1, _ => simp only [List.cons_append, List.nil_append, List.take_succ_cons, List.take_zero] <;> congr 3 <;> (show _ = m / 281474976710656 % 256; omega)
  | 2, _ => simp only [List.cons_append, List.nil_append, List.take_succ_cons, List.take_zero] <;> congr 4 <;> (show _ = m / 1099511627776 % 256; omega)
  | 3, _ => simp only [List.cons_append, List.nil_append, List.take_succ_cons, List.take_zero] <;> congr 5 <;> (show _ = m / 4294967296 % 256; omega)
  | 4, _ => simp only [List.cons_append, List.nil_append, List.take_succ_cons, List.take_zero] <;> congr 6 <;> (show _ = m / 16777216 % 256; omega)
  | 5, _ => simp only [List.cons_append, List.nil_append, List.take_succ_cons, List.take_zero] <;> congr 7 <;> (show _ = m / 65536 % 256; omega)
  | 6, _ => simp only [List.cons_append, List.nil_append, List.take_succ_cons, List.take_zero] <;> congr 8 <;> (show _ = m / 256 % 256; omega)
  | 7, _ => simp only [List.cons_append, List.nil_append, List.take_succ_cons, List.take_zero] <;> congr 9 <;> (show _ = m / 1 % 256; omega)
/-- the message so far: i bytes of the length -/
def Pae (s : ByteArray) (t : ByteArray) (i : Nat) : Prop := t.data.toList = s.data.toList ++ 0x80 :: List.replicate (padTo s.size) 0 ++ (len8 s.size).take i ∧ t.size = s.size + 1 + padTo s.size + i
theorem pae_start {s t : ByteArray} {j : Nat} (h : Pad s t j) (hj : j = padTo s.size) : Pae s t 0 := by
  subst hj; exact ⟨by rw [List.take_zero, List.append_nil]; exact h.1, h.2⟩
theorem pae_next {s t : ByteArray} {i : Nat} (h : Pae s t i) (hi : i < 8) (x : UInt8) (hx : x = UInt8.ofNat ((s.size * 8 : Nat) / 2 ^ (8 * (7 - i)) % 256)) : Pae s (t ++ ByteArray.mk #[x]) (i + 1) := by
  obtain ⟨h1, h2⟩ := h
  refine ⟨?_, by rw [ByteArray.size_append, h2]; show _ + 1 = _; omega⟩
  rw [show (ByteArray.mk #[x]) = ByteArray.mk [x].toArray from rfl, bytes_append, h1, len8_get _ _ hi, hx, List.append_assoc]
theorem pae_end {s t : ByteArray} (h : Pae s t 8) : t.data.toList = padded s.data.toList := by
  rw [h.1, padded]
  have e : s.data.toList.length = s.size := Array.length_toList
  rw [e, List.append_assoc, List.take_of_length_le (by simp [len8, by4])]
  rw [show len8 s.size = by4 ((s.size * 8 / 4294967296 : Nat) : Int) ++ by4 ((s.size * 8 % 4294967296 : Nat) : Int) from rfl]
  simp
/-- string([]byte of one) -/
theorem conv1 (w : World) (x : UInt8) (v : Int) (hv : v = (x.toNat : Int)) : (convert 69 9 (.slice (some ⟨w.heap.size, 0, none⟩) 1 1)).run Tryd.prog (w.alloc (.cells #[.int .u8 v] 5)) = .ok (.string ⟨#[x]⟩) (w.alloc (.cells #[.int .u8 v] 5)) := by
  subst hv
  exact run_convert_bytes_back (P := Tryd.prog) _ 69 9 5 ⟨w.heap.size, 0, none⟩ 1 [x] Tryd.underlying69 Tryd.underlying5 Tryd.underlying9 (fun j hj => by
    have : j = 0 := by simp at hj; omega
    subst this
    exact (At.new w 5 [.int .u8 (x.toNat : Int)]).cell (i := 0) rfl)
set_option maxRecDepth 100000 in
set_option maxHeartbeats 1000000 in
theorem rpadded_any (s : ByteArray) (w : World) (hs : s.size ≤ 140737488354000) :
    Calls Tryd.prog 126 #[.string s] w fun e w' => ∃ t : ByteArray, e = .returned (.string t) ∧ t.data.toList = padded s.data.toList ∧ Only (fun _ => False) w w' := by
  have hn1 : ¬ (9223372036854775807 < s.size + 1) := by omega
  go_enter Tryd.func126, Tryd.ntmps126
  go_wp2_with fail
  go_loop [3] (fun tv => ∃ (t : ByteArray) (j : Nat), j ≤ padTo s.size ∧ tv = .string t ∧ Hid (Pad s t j)) (fun tv => match tv with | .string t => s.size + 1 + padTo s.size - t.size | _ => 0)
  case atStart => exact ⟨_, 0, Nat.zero_le _, rfl, Lib.hid (pad_start s)⟩
  case round =>
    obtain ⟨t, j, hj, rfl, hp⟩ := hrel
    have hz := hp.out.2
    have hpt : padTo s.size < 64 := by unfold padTo; omega
    have HZ := Lib.hid hz
    by_cases hlt : j < padTo s.size
    · have hb : ((t.size : Int) % 64 != 56) = true := by
        have : (s.size + 1 + j) % 64 ≠ 56 := by unfold padTo at hlt; omega
        rw [bne_iff_ne]; omega
      have hn : ¬ (9223372036854775807 < t.size + 1) := by omega
      have hn2 : (t.size : Int) ≤ 9223372036854775807 := by omega
      clear hz
      go_wp2_with fail
      go_round
      case rel => exact ⟨_, j + 1, by omega, rfl, Lib.hid (pad_next hp.out)⟩
      case measure =>
        have := HZ.out
        show s.size + 1 + padTo s.size - (t ++ ByteArray.mk #[0]).size < s.size + 1 + padTo s.size - t.size
        rw [ByteArray.size_append, show (ByteArray.mk #[0]).size = 1 from rfl]
        omega
    · have hje : j = padTo s.size := by omega
      have hb : ((t.size : Int) % 64 != 56) = false := by
        have : (s.size + 1 + j) % 64 = 56 := by rw [hje]; unfold padTo; omega
        rw [bne_eq_false_iff_eq]; omega
      have hn2 : (t.size : Int) ≤ 9223372036854775807 := by omega
      have PS := Lib.hid (pae_start hp.out hje)
      clear hz hje hlt hj HZ
      go_wp2_with fail
      go_loopw [3, 5] (fun tv iv wr => ∃ (t : ByteArray) (k : Nat), k ≤ 8 ∧ tv = .string t ∧ iv = .int .i64 (7 - (k : Int)) ∧ Hid (Pae s t k) ∧ Hid (Only (fun _ => False) w wr)) (fun _ iv _ => (intOf iv + 1).toNat)
      case atStart => exact ⟨t, 0, by omega, rfl, rfl, PS, Lib.hid (Only.refl _ _)⟩
      case round =>
        clear PS hp
        obtain ⟨t, k, hk, rfl, rfl, hp, hO⟩ := hrel
        have hz := hp.out.2
        by_cases hlt : k < 8
        · have hn : ¬ (9223372036854775807 < t.size + 1) := by omega
          have i1 : (0 : Int) ≤ 7 - (k : Int) := by omega
          have i2 : (k : Int) ≤ 7 := by omega
          have i5 : IntKind.i64.wrap (8 * (7 - (k : Int))) = 8 * (7 - (k : Int)) := by rw [IntKind.wrap_i64]; omega
          have i6 : (0 : Int) ≤ 8 * (7 - (k : Int)) := by omega
          have i7 : (8 * (7 - (k : Int))).toNat = 8 * (7 - k) := by omega
          have hx : ((s.size : Int) * 8 / 2 ^ (8 * (7 - k)) % 256) = ((UInt8.ofNat ((s.size * 8 : Nat) / 2 ^ (8 * (7 - k)) % 256)).toNat : Int) := by
            rw [UInt8.toNat_ofNat']
            generalize hq : (s.size * 8 : Nat) / 2 ^ (8 * (7 - k)) = q
            have : ((s.size : Int) * 8 / 2 ^ (8 * (7 - k))) = (q : Int) := by rw [← hq]; simp
            rw [this]; omega
          have hcv := conv1 wr (UInt8.ofNat ((s.size * 8 : Nat) / 2 ^ (8 * (7 - k)) % 256)) _ hx
          have NP := Lib.hid (pae_next hp.out hlt _ rfl)
          clear hz hx hp
          generalize UInt8.ofNat ((s.size * 8 : Nat) / 2 ^ (8 * (7 - k)) % 256) = x at *
          go_wp2_with fail
          go_roundw
          case rel => exact ⟨_, k + 1, by omega, rfl, by congr 1; omega, NP, Lib.hid (hO.out.alloc _)⟩
          case measure => simp [intOf]; omega
        · obtain rfl : k = 8 := by omega
          have PE := Lib.hid (pae_end hp.out)
          clear hz hp
          go_wp2_with fail
          go_ret
          exact ⟨t, rfl, PE.out, hO.out⟩
end Go.Proofs.YtjmdfipofgmakaaDoor
