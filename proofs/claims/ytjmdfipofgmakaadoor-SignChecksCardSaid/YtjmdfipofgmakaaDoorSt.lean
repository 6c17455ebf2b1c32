/-
  sign.hash: contract.
-/
import Derived.Test.YtjmdfipofgmakaaDoorSq
import Derived.Test.YtjmdfipofgmakaaDoorSr
import Derived.Test.YtjmdfipofgmakaaDoorSs
namespace Go.Proofs.YtjmdfipofgmakaaDoor
open Go.RowKit Go.Shelf
set_option linter.unusedVariables false
set_option linter.unusedSimpArgs false

theorem builder_only {T e : TypeId} {B b : Nat} {bs : List Value} {w w' : World} (h : Lib.IsBuilder T e B b bs w) (o : Only (fun _ => False) w w') : Lib.IsBuilder T e B b bs w' := by
  have hg : w.grownBy w' none := ⟨o.os, o.tape, o.output, o.size, fun k hk _ => o.same k hk (fun h => h)⟩
  rcases h with h | h
  all_goals
    have hlt := h.lt
    obtain ⟨hB, v, hb, hown, hne⟩ := h
  · exact .inl ⟨hB, v, (o.same b hlt (fun h => h)).trans hb, hown.kept (row := none) hg (by rcases h' : v.ownBlock with _ | _; exact .inl rfl; exact .inr (by simp)), hne⟩
  · exact .inr ⟨hB, v, (o.same b hlt (fun h => h)).trans hb, hown.kept (row := none) hg (by rcases h' : v.ownBlock with _ | _; exact .inl rfl; exact .inr (by simp)), hne⟩
/-- the text that is hashed -/
def hashT (letter text : List UInt8) (ns : List Int) : List UInt8 := letter ++ ns.flatMap by8 ++ text
theorem by8_len (n : Int) : (by8 n).length = 8 := byZ_len n 8
theorem flat_len (ns : List Int) : (ns.flatMap by8).length = 8 * ns.length := by
  induction ns with
  | nil => rfl
  | cons n ns ih => rw [List.flatMap_cons, List.length_append, by8_len, ih, List.length_cons]; omega
theorem take_flat (ns : List Int) (k : Nat) (h : k < ns.length) : (ns.take (k + 1)).flatMap by8 = (ns.take k).flatMap by8 ++ by8 (ns.getD k 0) := by
  rw [List.take_add_one, List.flatMap_append, List.getElem?_eq_getElem h]
  simp [List.getD_eq_getElem?_getD, h]
theorem strCells_bytes (s : ByteArray) : Lib.strCells s = Lib.byteCells s.data.toList := rfl
theorem byteCells_append (a b : List UInt8) : Lib.byteCells (a ++ b) = Lib.byteCells a ++ Lib.byteCells b := by simp [Lib.byteCells]

set_option maxRecDepth 100000 in
set_option maxHeartbeats 2000000 in
theorem hash_any (letter text : ByteArray) (ns : List Int) (p : Option Addr) (g n c : Nat) (w : World) (hn : ns.length = n) (hn2 : n ≤ 10) (hp : 0 < n → p = some ⟨g, 0, none⟩) (hc : ∀ k v, ns[k]? = some v → w.cell? ⟨g, k, none⟩ = some (.int .i64 v)) (hs : letter.size + text.size ≤ 140737488352000) :
    Calls Tryd.prog 75 #[.string letter, .string text, .slice p n c] w fun e w' => e = .returned (.int .i64 (scal (hashT letter.data.toList text.data.toList ns))) ∧ Only (fun _ => False) w w' := by
  have HC := Lib.hid hc
  have HN := Lib.hid hn
  have HN2 := Lib.hid hn2
  have HP := Lib.hid hp
  have HL := Lib.hid hs
  have HB := Lib.hid (Lib.fresh_isBuilder 120 5 w)
  have HO := Lib.hid ((Only.refl (fun _ => False) w).alloc (.cells #[.pointer none, .slice none 0 0] 120))
  clear hc hn hn2 hp hs
  go_enter Tryd.func75, Tryd.ntmps75
  go_wp2_with fail
  refine (writeString_any w.heap.size w.heap.size [] letter _ HB.out (by have := HL.out; simp; omega) (by simp)).mono ?_
  rintro e w1 ⟨rfl, b1, l1⟩
  rw [List.nil_append, strCells_bytes] at b1
  have B1 := Lib.hid (show Lib.IsBuilder 120 5 w.heap.size w.heap.size (Lib.byteCells (letter.data.toList ++ (ns.take 0).flatMap by8)) w1 by rw [List.take_zero, List.flatMap_nil, List.append_nil]; exact .inr b1)
  have O1 := Lib.hid (HO.out.trans (Only.mk l1.os l1.tape l1.output l1.size (fun k hk hT => l1.block k (Nat.lt_of_not_le hT)) : Only (fun k => w.heap.size ≤ k) _ w1) (fun k hk e => by omega))
  clear b1 l1 HB HO
  go_wp2_with fail
  go_loopw [14] (fun iv wr => ∃ k : Nat, k ≤ n ∧ iv = .int .i64 k ∧ Hid (Lib.IsBuilder 120 5 w.heap.size w.heap.size (Lib.byteCells (letter.data.toList ++ (ns.take k).flatMap by8)) wr) ∧ Hid (Only (fun _ => False) w wr)) (fun iv _ => n - (intOf iv).toNat)
  case atStart => exact ⟨0, by omega, rfl, B1.out, O1.out⟩
  case round =>
    clear B1 O1
    obtain ⟨k, hk, rfl, hB, hO⟩ := hrel
    by_cases hlt : k < n
    · obtain rfl := HP.out (by omega)
      have hlt' : k < ns.length := by rw [HN.out]; exact hlt
      have c := hO.out.cell (HC.out k (ns.getD k 0) (by simp [List.getD_eq_getElem?_getD, hlt'])) (fun h => h)
      have TF := Lib.hid (take_flat ns k hlt')
      generalize ns.getD k 0 = x at *
      have i1 : (k : Int) < (n : Int) := by omega
      have i2 : (n : Int) ≤ 10 := by have := HN2.out; omega
      have SB := Lib.hid (sbytes_any x)
      have LB := Lib.hid (by8_len x)
      generalize by8 x = bx at *
      obtain ⟨y, hy⟩ : ∃ y, y = ByteArray.mk bx.toArray := ⟨_, rfl⟩
      rw [← hy] at SB
      have LY := Lib.hid (show y.size = 8 by rw [hy]; exact LB.out)
      have DY := Lib.hid (show y.data.toList = bx by rw [hy])
      clear hy
      go_wp2_with fail
      refine (SB.out _).mono ?_
      rintro e w2 ⟨rfl, o2⟩
      go_wp2_with fail
      refine (writeString_any w.heap.size w.heap.size _ y _ (builder_only hB.out o2) ?len (by have := hO.out.size; have := o2.size; omega)).mono ?_
      case len =>
        have h1 := LY.out
        have h2 : (letter.data.toList).length = letter.size := Array.length_toList
        rw [h1]
        simp only [Lib.byteCells, List.length_map, List.length_append, flat_len, List.length_take, h2]
        have := HL.out
        have := HN2.out
        omega
      rintro e w3 ⟨rfl, b3, l3⟩
      rw [strCells_bytes, DY.out, ← byteCells_append, List.append_assoc, ← TF.out] at b3
      go_wp2_with fail
      exact ⟨⟨k + 1, by omega, by go_num, .inr b3, (hO.out.trans o2 (fun _ _ h => h)).trans (Only.mk l3.os l3.tape l3.output l3.size (fun j hj hT => l3.block j (Nat.lt_of_not_le hT)) : Only (fun j => w.heap.size ≤ j) _ w3) (fun j hj e => by omega)⟩, by simp [intOf]; omega⟩
    · obtain rfl : k = n := by omega
      have hB' := hB.out
      rw [List.take_of_length_le (by rw [HN.out]; exact Nat.le_refl _)] at hB'
      have HB := Lib.hid hB'
      have HF := Lib.hid (show hashT letter.data.toList text.data.toList ns = (letter.data.toList ++ ns.flatMap by8) ++ text.data.toList from rfl)
      have LL : Hid ((letter.data.toList ++ ns.flatMap by8).length ≤ letter.size + 80) := Lib.hid (by
        have h2 : (letter.data.toList).length = letter.size := Array.length_toList
        rw [List.length_append, flat_len, h2, HN.out]
        have := HN2.out
        omega)
      clear hB' hB
      generalize letter.data.toList ++ ns.flatMap by8 = L at *
      have SB := Tryd.Builder_String_any w.heap.size w.heap.size L wr HB.out hO.out.size
      obtain ⟨y, hy⟩ : ∃ y, y = ByteArray.mk L.toArray := ⟨_, rfl⟩
      rw [← hy] at SB
      have BS := Lib.hid SB
      have LY : y.size = L.length := by rw [hy]; rfl
      obtain ⟨t, ht⟩ : ∃ t, t = y ++ text := ⟨_, rfl⟩
      have DT := Lib.hid (show t.data.toList = L ++ text.data.toList by rw [ht, hy, ByteArray.data_append]; simp)
      have ZT := Lib.hid (show t.size ≤ 140737488353000 by rw [ht, ByteArray.size_append, LY]; have := LL.out; have := HL.out; omega)
      have hneg : ¬ (9223372036854775807 < y.size + text.size) := by rw [LY]; have := LL.out; have := HL.out; omega
      have HT := Lib.hid ht.symm
      clear SB hy LY ht HB
      go_wp2_with fail
      refine BS.out.mono ?_
      rintro e w2 ⟨rfl, b2⟩
      have o2 : Only (fun j => w.heap.size ≤ j) wr w2 := ⟨b2.os, b2.tape, b2.output, b2.size, fun j hj hT => b2.block j (Nat.lt_of_not_le hT)⟩
      have O2 := Lib.hid (hO.out.trans o2 (fun j hj e => by omega))
      clear b2 o2
      go_wp2_with fail
      rw [HT.out]
      refine (scalar_any t _ ZT.out).mono ?_
      rintro e w3 ⟨rfl, o3⟩
      rw [DT.out, ← HF.out]
      obtain ⟨sc, hsc⟩ : ∃ sc, sc = scal (hashT letter.data.toList text.data.toList ns) := ⟨_, rfl⟩
      rw [← hsc]
      have HSC := Lib.hid hsc
      clear hsc
      go_wp2_with fail
      go_ret
      exact ⟨by rw [← HSC.out]; rfl, O2.out.trans o3 (fun _ _ h => h)⟩
end Go.Proofs.YtjmdfipofgmakaaDoor
