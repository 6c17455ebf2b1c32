/-
  strings.Builder: copyCheck and WriteString, at this program's form.
  sign.bytes: contract.
  sign.hash: contract.
  sign: exponent, public, challenge, Key: contracts.
  sign.Text, sign.Read (of texts that hold numbers): contracts.
  Signatures, plain: those that are made are accepted, and no other S is.
  sorteslaw05.sanity: contract.
  sorteslaw05.sanity: contract.
-/
import Derived.Shelf.Strings.Builder1
import Derived.Laws.IdiomStrings
import Derived.Lib.MinMax
import Derived.Deep.RegionHeld3
import Derived.Lib.ItoaLen
import Derived.Test.YtoekhpnapnhefaaGreatDoorShelf
import Derived.Test.YtoekhpnapnhefaaGreatDoorMA
import Derived.Test.YtoekhpnapnhefaaGreatDoorMC
import Derived.Test.YtoekhpnapnhefaaGreatDoorMB
namespace Go.Proofs.YtoekhpnapnhefaaGreatDoor
open Go.RowKit Go.Shelf
set_option linter.unusedVariables false
set_option linter.unusedSimpArgs false

theorem sizeBuilder : (Tryz.prog.info? 115).map (·.size) = some 2 := by kernel_rfl
theorem liesBuilder : liesAt Tryz.prog Tryz.prog.depth 115 (2 / Tryz.prog.cellsOf 115) 0 115 1 = true := by kernel_rfl
set_option maxHeartbeats 1000000 in
set_option maxRecDepth 100000 in
theorem copyCheck_used (b : Nat) (w : World) (h0 : w.cell? ⟨b, 0, none⟩ = some (.pointer (some ⟨b, 0, none⟩))) :
    Calls Tryz.prog 122 #[.pointer (some ⟨b, 0, none⟩)] w fun e w' => e = .returned (.tuple #[]) ∧ w' = w := by
  obtain ⟨j, hj, _⟩ := Option.map_eq_some_iff.1 sizeBuilder
  go_enter Tryz.func122, Tryz.ntmps122
  go_wp2
  rw [Lib.run_neq_ptr_same w _ Tryz.underlying113 hj]
  go_wp2
  go_end0
  exact ⟨rfl, rfl⟩
set_option maxHeartbeats 1000000 in
set_option maxRecDepth 100000 in
theorem copyCheck_fresh (b : Nat) (w : World) (h0 : w.cell? ⟨b, 0, none⟩ = some (.pointer none)) (hsh : w.shape? b = some (115, 2)) (hfz : w.frozen? ⟨b, 0, none⟩ = false) :
    Calls Tryz.prog 122 #[.pointer (some ⟨b, 0, none⟩)] w fun e w' => e = .returned (.tuple #[]) ∧ w' = w.setCell ⟨b, 0, none⟩ (.pointer (some ⟨b, 0, none⟩)) := by
  obtain ⟨j, hj, hjs⟩ := Option.map_eq_some_iff.1 sizeBuilder
  go_enter Tryz.func122, Tryz.ntmps122
  go_wp2
  rw [Lib.run_to_unsafe w ⟨b, 0, none⟩ Tryz.underlying113 Tryz.underlying171 hj (by rw [hjs]; decide) hsh (Nat.zero_lt_succ 1)]
  simp only [Result.andThen]
  rw [Oper.upon_value]
  go_wp2
  rw [run_callFunc_extern Tryz.func144 (by kernel_rfl) (by kernel_rfl) (by kernel_rfl) (e := Extern.AbiNoEscape.same) (by kernel_rfl)]
  rw [Lib.run_noEscape]
  simp only [Result.andThen]
  rw [Oper.upon_value]
  go_wp2
  rw [Lib.run_from_unsafe w ⟨b, 0, none⟩ Tryz.underlying171 Tryz.underlying113 hj hsh liesBuilder]
  simp only [Result.andThen]
  rw [Oper.upon_value]
  go_wp2
  go_end0
  exact ⟨rfl, rfl⟩
/-- of the blocks that there were only b and its buffer may have turned, and the buffer is the call's own -/
theorem copyCheck_any (B b : Nat) (bs : List Value) (w : World) (h : Lib.IsBuilder 115 5 B b bs w) :
    Calls Tryz.prog 122 #[.pointer (some ⟨b, 0, none⟩)] w fun e w' => e = .returned (.tuple #[]) ∧ (Lib.BuilderAt 115 5 B b (.pointer (some ⟨b, 0, none⟩)) bs w' ∧ Below B w w') := by
  rcases h with h | h
  · refine (copyCheck_fresh b w h.cell0 h.shape h.frozen0).mono ?_
    rintro e w' ⟨rfl, rfl⟩
    exact ⟨rfl, h.used _, (Below.refl B w).setCell (p := ⟨b, 0, none⟩) h.1 _⟩
  · refine (copyCheck_used b w h.cell0).mono ?_
    rintro e w' ⟨rfl, rfl⟩
    exact ⟨rfl, h, Below.refl B _⟩
set_option maxHeartbeats 2000000 in
set_option maxRecDepth 100000 in
theorem writeString_any (B b : Nat) (bs : List Value) (s : ByteArray) (w : World) (h : Lib.IsBuilder 115 5 B b bs w) (hlen : bs.length + s.size ≤ 140737488355328) (hBw : B ≤ w.heap.size) :
    Calls Tryz.prog 91 #[.pointer (some ⟨b, 0, none⟩), .string s] w fun e w' => e = .returned (.tuple #[.int .i64 s.size, .nilIface]) ∧ (Lib.BuilderAt 115 5 B b (.pointer (some ⟨b, 0, none⟩)) (bs ++ Lib.strCells s) w' ∧ Below B w w') := by
  obtain ⟨i0, hi, hz0, hz1, hz2⟩ := info_parts (show (Tryz.prog.info? 5).map (fun i => (i.zero, i.size, i.bytes)) = some (some (.int .u8 0), 1, 1) by kernel_rfl)
  have HL := Lib.hid hlen
  clear hlen
  go_enter Tryz.func91, Tryz.ntmps91
  go_wp2_with fail
  refine (copyCheck_any B b bs _ h).mono ?_
  rintro e w1 ⟨rfl, h1, hb1⟩
  obtain ⟨hB, v, hbk, hown, hne⟩ := h1
  have c0 : w1.cell? ⟨b, 0, none⟩ = some (.pointer (some ⟨b, 0, none⟩)) := by rw [Lib.cell_of_heap hbk]; rfl
  have c1 : w1.cell? ⟨b, 1, none⟩ = some v := by rw [Lib.cell_of_heap hbk]; rfl
  go_wp2_with (at_builtin; refine Lib.wpList_append_own_string _ rfl _ _ 46 9 rfl B 5 i0 Tryz.underlying46 Tryz.underlying9 hi hz0 hz1 hz2 _ _ _ rfl hown s rfl ?c3 ?c4 ?c5 ?_)
  case c3 => unfold maxLen; have := HL.out; omega
  case c4 => have := HL.out; omega
  case c5 => have := hb1.size; omega
  intro v' w2 hown' hgrow _
  have hlt : b < w1.heap.size := by
    rcases Nat.lt_or_ge b w1.heap.size with h' | h'
    · exact h'
    · simp [Array.getElem?_eq_none h'] at hbk
  have hb2 : w2.heap[b]? = some (.cells #[.pointer (some ⟨b, 0, none⟩), v] 115 (0, 0)) := by
    rw [hgrow.block b hlt (fun e => hne e.symm)]
    exact hbk
  have d0 : w2.cell? ⟨b, 0, none⟩ = some (.pointer (some ⟨b, 0, none⟩)) := by rw [Lib.cell_of_heap hb2]; rfl
  have d1 : w2.cell? ⟨b, 1, none⟩ = some v := by rw [Lib.cell_of_heap hb2]; rfl
  have f1 : w2.frozen? ⟨b, 1, none⟩ = false := Lib.frozen_of_heap hb2 1
  obtain ⟨ao, n', cap, rfl⟩ : ∃ ao n' cap, v' = .slice ao n' cap := by
    rcases hown'.2 with ⟨hv, _⟩ | ⟨g, cap, cur, hv, _⟩
    · exact ⟨_, _, _, hv⟩
    · exact ⟨_, _, _, hv⟩
  go_wp2_with fail
  go_ret2
  refine ⟨rfl, ?_, ?_⟩
  · exact Lib.BuilderAt.put (T := 115) (e := 5) hB hb2 (bs' := bs ++ Lib.strCells s) (by simpa [Lib.strCells_length] using hown') (by decide)
  · exact (hb1.grown hgrow (by have := hb1.size; omega) (fun k hk => (hown.lt k hk).1)).setCell (p := ⟨b, 1, none⟩) hB _
end Go.Proofs.YtoekhpnapnhefaaGreatDoor

namespace Go.Proofs.YtoekhpnapnhefaaGreatDoor
open Go.RowKit
set_option linter.unusedVariables false
set_option linter.unusedSimpArgs false

/-- the eight bytes of a number, the last k of them laid -/
def byZ (n : Int) : Nat → List UInt8
  | 0 => List.replicate 8 0
  | k + 1 => (byZ n k).set (7 - k) (UInt8.ofNat (n / 2 ^ (8 * k) % 256).toNat)
def by8 (n : Int) : List UInt8 := byZ n 8
theorem byZ_len (n : Int) : ∀ k, (byZ n k).length = 8
  | 0 => rfl
  | k + 1 => by rw [byZ, List.length_set, byZ_len n k]
theorem byZ_set (n : Int) (k : Nat) : (bcells (byZ n k)).set (7 - k) (.int .u8 (n / 2 ^ (8 * k) % 256)) = bcells (byZ n (k + 1)) := by
  rw [byZ, bcells, bcells, List.map_set, by_num]
theorem bcells_cell8 {l : List UInt8} {k : Nat} (h : k < l.length) : (bcells l)[k]? = some (.int .u8 ((l.getD k 0).toNat : Int)) := by
  simp [bcells, List.getD_eq_getElem?_getD, h]
theorem bcells_get' {l : List UInt8} {j : Nat} (h : j < l.length) : (bcells l)[j]? = some (.int .u8 (l[j].toNat : Int)) := by
  simp [bcells, h]
def z8 : List Value := List.replicate 8 (Value.int .u8 0)
theorem zero8b (w : World) : (zeroValue 170).run Tryz.prog w = .ok (.agg z8.toArray) w := by kernel_rfl
theorem arr8 : Tryz.prog.underlying 170 = some (.array (Tryz.prog.arrayLen 170) (Tryz.prog.elem 170)) := by kernel_rfl
theorem arrLen8 : Tryz.prog.arrayLen 170 = 8 := by kernel_rfl
theorem arrElem8 : Tryz.prog.elem 170 = 5 := by kernel_rfl
theorem slice_8 (g : Nat) (w : World) : (Instr.sliceAt 170 (.pointer (some ⟨g, 0, none⟩)) none none none).run Tryz.prog w = .ok (.slice (some ⟨g, 0, none⟩) 8 8) w := by
  rw [run_sliceAt_array_all (P := Tryz.prog) w _ ⟨g, 0, none⟩ arr8, arrElem8, Tryz.sizeOf5, arrLen8]
  rfl
set_option maxRecDepth 100000 in
set_option maxHeartbeats 1000000 in
theorem sbytes_any (n : Int) (w : World) :
    Calls Tryz.prog 121 #[.int .i64 n] w fun e w' => e = .returned (.string ⟨(by8 n).toArray⟩) ∧ Only (fun _ => False) w w' := by
  go_enter Tryz.func121, Tryz.ntmps121
  go_wp2_with (with_reducible refine wpl_alloc_all (o := ⟨some 3, _, _, _, _, _⟩) rfl _ rfl _ (zero8b _) ?_; intro w1 h1 o1 s1; have H1 := Lib.hid h1; have O1 := Lib.hid o1; clear h1 o1 s1)
  go_loopw [5] (fun iv wr => ∃ k : Nat, k ≤ 8 ∧ iv = .int .i64 k ∧ Hid (At wr w.heap.size 170 (bcells (byZ n k))) ∧ Hid (Only (fun _ => False) w wr)) (fun iv _ => 8 - (intOf iv).toNat)
  case atStart => exact ⟨0, by omega, rfl, H1.out, O1.out⟩
  case round =>
    clear H1 O1
    obtain ⟨k, hk, rfl, hA, hO⟩ := hrel
    by_cases hlt : k < 8
    · have c := hA.out.cell (bcells_cell8 (l := byZ n k) (k := 7 - k) (by rw [byZ_len]; omega))
      have f := hA.out.frozen (7 - k)
      have NX := Lib.hid (byZ_set n k)
      generalize (byZ n k).getD (7 - k) 0 = b at *
      have i1 : (k : Int) < 8 := by omega
      have i2 : (0 : Int) ≤ 7 - (k : Int) := by omega
      have i3 : (7 : Int) - (k : Int) < 8 := by omega
      have i4 : ((7 : Int) - (k : Int)).toNat = 7 - k := by omega
      have i5 : IntKind.i64.wrap (8 * (k : Int)) = 8 * (k : Int) := by rw [IntKind.wrap_i64]; omega
      have i6 : (0 : Int) ≤ 8 * (k : Int) := by omega
      have i7 : (8 * (k : Int)).toNat = 8 * k := by omega
      go_wp2_with fail
      exact ⟨⟨k + 1, by omega, by go_num, by rw [← NX.out]; exact hA.out.put (7 - k) _, hO.out.put (p := ⟨w.heap.size, 7 - k, none⟩) (fun h => absurd h (Nat.lt_irrefl _)) _⟩, by simp [intOf]; omega⟩
    · obtain rfl : k = 8 := by omega
      have hcv := run_convert_bytes_back (P := Tryz.prog) wr 46 9 5 ⟨w.heap.size, 0, none⟩ 8 (by8 n) Tryz.underlying46 Tryz.underlying5 Tryz.underlying9 (fun j hj => by rw [Addr.add_lit, Nat.zero_add]; exact hA.out.cell (bcells_get' hj))
      rw [show (by8 n).length = 8 from byZ_len n 8] at hcv
      have SL := fun w' => slice_8 w.heap.size w'
      go_wp2_with fail
      go_ret
      exact ⟨rfl, hO.out⟩
end Go.Proofs.YtoekhpnapnhefaaGreatDoor

namespace Go.Proofs.YtoekhpnapnhefaaGreatDoor
open Go.RowKit Go.Shelf
set_option linter.unusedVariables false
set_option linter.unusedSimpArgs false

theorem builder_only {T e : TypeId} {B b : Nat} {bs : List Value} {w w' : World} (h : Lib.IsBuilder T e B b bs w) (o : Only (fun _ => False) w w') : Lib.IsBuilder T e B b bs w' := by
  have hg : w.grownBy w' none := ⟨o.os, o.tape, o.output, o.size, fun k hk _ => o.same k hk (fun h => h)⟩
  rcases h with h | h
  all_goals
    have hlt := h.lt
    obtain ⟨hB, v, hb, hown, hne⟩ := h
  · exact .inl ⟨hB, v, (o.same b hlt (fun h => h)).trans hb, hown.kept (row := none) hg (by rcases h' : v.ownBlock with _ | _; exact .inl rfl; exact .inr (by simp)), hne⟩
  · exact .inr ⟨hB, v, (o.same b hlt (fun h => h)).trans hb, hown.kept (row := none) hg (by rcases h' : v.ownBlock with _ | _; exact .inl rfl; exact .inr (by simp)), hne⟩
/-- the text that is hashed -/
def hashT (letter text : List UInt8) (ns : List Int) : List UInt8 := letter ++ ns.flatMap by8 ++ text
theorem by8_len (n : Int) : (by8 n).length = 8 := byZ_len n 8
theorem flat_len (ns : List Int) : (ns.flatMap by8).length = 8 * ns.length := by
  induction ns with
  | nil => rfl
  | cons n ns ih => rw [List.flatMap_cons, List.length_append, by8_len, ih, List.length_cons]; omega
theorem take_flat (ns : List Int) (k : Nat) (h : k < ns.length) : (ns.take (k + 1)).flatMap by8 = (ns.take k).flatMap by8 ++ by8 (ns.getD k 0) := by
  rw [List.take_add_one, List.flatMap_append, List.getElem?_eq_getElem h]
  simp [List.getD_eq_getElem?_getD, h]
theorem strCells_bytes (s : ByteArray) : Lib.strCells s = Lib.byteCells s.data.toList := rfl
theorem byteCells_append (a b : List UInt8) : Lib.byteCells (a ++ b) = Lib.byteCells a ++ Lib.byteCells b := by simp [Lib.byteCells]

set_option maxRecDepth 100000 in
set_option maxHeartbeats 2000000 in
theorem hash_any (letter text : ByteArray) (ns : List Int) (p : Option Addr) (g n c : Nat) (w : World) (hn : ns.length = n) (hn2 : n ≤ 10) (hp : 0 < n → p = some ⟨g, 0, none⟩) (hc : ∀ k v, ns[k]? = some v → w.cell? ⟨g, k, none⟩ = some (.int .i64 v)) (hs : letter.size + text.size ≤ 140737488352000) :
    Calls Tryz.prog 89 #[.string letter, .string text, .slice p n c] w fun e w' => e = .returned (.int .i64 (scal (hashT letter.data.toList text.data.toList ns))) ∧ Only (fun _ => False) w w' := by
  have HC := Lib.hid hc
  have HN := Lib.hid hn
  have HN2 := Lib.hid hn2
  have HP := Lib.hid hp
  have HL := Lib.hid hs
  have HB := Lib.hid (Lib.fresh_isBuilder 115 5 w)
  have HO := Lib.hid ((Only.refl (fun _ => False) w).alloc (.cells #[.pointer none, .slice none 0 0] 115))
  clear hc hn hn2 hp hs
  go_enter Tryz.func89, Tryz.ntmps89
  go_wp2_with fail
  refine (writeString_any w.heap.size w.heap.size [] letter _ HB.out (by have := HL.out; simp; omega) (by simp)).mono ?_
  rintro e w1 ⟨rfl, b1, l1⟩
  rw [List.nil_append, strCells_bytes] at b1
  have B1 := Lib.hid (show Lib.IsBuilder 115 5 w.heap.size w.heap.size (Lib.byteCells (letter.data.toList ++ (ns.take 0).flatMap by8)) w1 by rw [List.take_zero, List.flatMap_nil, List.append_nil]; exact .inr b1)
  have O1 := Lib.hid (HO.out.trans (Only.mk l1.os l1.tape l1.output l1.size (fun k hk hT => l1.block k (Nat.lt_of_not_le hT)) : Only (fun k => w.heap.size ≤ k) _ w1) (fun k hk e => by omega))
  clear b1 l1 HB HO
  go_wp2_with fail
  go_loopw [14] (fun iv wr => ∃ k : Nat, k ≤ n ∧ iv = .int .i64 k ∧ Hid (Lib.IsBuilder 115 5 w.heap.size w.heap.size (Lib.byteCells (letter.data.toList ++ (ns.take k).flatMap by8)) wr) ∧ Hid (Only (fun _ => False) w wr)) (fun iv _ => n - (intOf iv).toNat)
  case atStart => exact ⟨0, by omega, rfl, B1.out, O1.out⟩
  case round =>
    clear B1 O1
    obtain ⟨k, hk, rfl, hB, hO⟩ := hrel
    by_cases hlt : k < n
    · obtain rfl := HP.out (by omega)
      have hlt' : k < ns.length := by rw [HN.out]; exact hlt
      have c := hO.out.cell (HC.out k (ns.getD k 0) (by simp [List.getD_eq_getElem?_getD, hlt'])) (fun h => h)
      have TF := Lib.hid (take_flat ns k hlt')
      generalize ns.getD k 0 = x at *
      have i1 : (k : Int) < (n : Int) := by omega
      have i2 : (n : Int) ≤ 10 := by have := HN2.out; omega
      have SB := Lib.hid (sbytes_any x)
      have LB := Lib.hid (by8_len x)
      generalize by8 x = bx at *
      obtain ⟨y, hy⟩ : ∃ y, y = ByteArray.mk bx.toArray := ⟨_, rfl⟩
      rw [← hy] at SB
      have LY := Lib.hid (show y.size = 8 by rw [hy]; exact LB.out)
      have DY := Lib.hid (show y.data.toList = bx by rw [hy])
      clear hy
      go_wp2_with fail
      refine (SB.out _).mono ?_
      rintro e w2 ⟨rfl, o2⟩
      go_wp2_with fail
      refine (writeString_any w.heap.size w.heap.size _ y _ (builder_only hB.out o2) ?len (by have := hO.out.size; have := o2.size; omega)).mono ?_
      case len =>
        have h1 := LY.out
        have h2 : (letter.data.toList).length = letter.size := Array.length_toList
        rw [h1]
        simp only [Lib.byteCells, List.length_map, List.length_append, flat_len, List.length_take, h2]
        have := HL.out
        have := HN2.out
        omega
      rintro e w3 ⟨rfl, b3, l3⟩
      rw [strCells_bytes, DY.out, ← byteCells_append, List.append_assoc, ← TF.out] at b3
      go_wp2_with fail
      exact ⟨⟨k + 1, by omega, by go_num, .inr b3, (hO.out.trans o2 (fun _ _ h => h)).trans (Only.mk l3.os l3.tape l3.output l3.size (fun j hj hT => l3.block j (Nat.lt_of_not_le hT)) : Only (fun j => w.heap.size ≤ j) _ w3) (fun j hj e => by omega)⟩, by simp [intOf]; omega⟩
    · obtain rfl : k = n := by omega
      have hB' := hB.out
      rw [List.take_of_length_le (by rw [HN.out]; exact Nat.le_refl _)] at hB'
      have HB := Lib.hid hB'
      have HF := Lib.hid (show hashT letter.data.toList text.data.toList ns = (letter.data.toList ++ ns.flatMap by8) ++ text.data.toList from rfl)
      have LL : Hid ((letter.data.toList ++ ns.flatMap by8).length ≤ letter.size + 80) := Lib.hid (by
        have h2 : (letter.data.toList).length = letter.size := Array.length_toList
        rw [List.length_append, flat_len, h2, HN.out]
        have := HN2.out
        omega)
      clear hB' hB
      generalize letter.data.toList ++ ns.flatMap by8 = L at *
      have SB := Tryz.Builder_String_any w.heap.size w.heap.size L wr HB.out hO.out.size
      obtain ⟨y, hy⟩ : ∃ y, y = ByteArray.mk L.toArray := ⟨_, rfl⟩
      rw [← hy] at SB
      have BS := Lib.hid SB
      have LY : y.size = L.length := by rw [hy]; rfl
      obtain ⟨t, ht⟩ : ∃ t, t = y ++ text := ⟨_, rfl⟩
      have DT := Lib.hid (show t.data.toList = L ++ text.data.toList by rw [ht, hy, ByteArray.data_append]; simp)
      have ZT := Lib.hid (show t.size ≤ 140737488353000 by rw [ht, ByteArray.size_append, LY]; have := LL.out; have := HL.out; omega)
      have hneg : ¬ (9223372036854775807 < y.size + text.size) := by rw [LY]; have := LL.out; have := HL.out; omega
      have HT := Lib.hid ht.symm
      clear SB hy LY ht HB
      go_wp2_with fail
      refine BS.out.mono ?_
      rintro e w2 ⟨rfl, b2⟩
      have o2 : Only (fun j => w.heap.size ≤ j) wr w2 := ⟨b2.os, b2.tape, b2.output, b2.size, fun j hj hT => b2.block j (Nat.lt_of_not_le hT)⟩
      have O2 := Lib.hid (hO.out.trans o2 (fun j hj e => by omega))
      clear b2 o2
      go_wp2_with fail
      rw [HT.out]
      refine (scalar_any t _ ZT.out).mono ?_
      rintro e w3 ⟨rfl, o3⟩
      rw [DT.out, ← HF.out]
      obtain ⟨sc, hsc⟩ : ∃ sc, sc = scal (hashT letter.data.toList text.data.toList ns) := ⟨_, rfl⟩
      rw [← hsc]
      have HSC := Lib.hid hsc
      clear hsc
      go_wp2_with fail
      go_ret
      exact ⟨by rw [← HSC.out]; rfl, O2.out.trans o3 (fun _ _ h => h)⟩
end Go.Proofs.YtoekhpnapnhefaaGreatDoor

namespace Go.Proofs.YtoekhpnapnhefaaGreatDoor
open Go.RowKit Go.Shelf
set_option linter.unusedVariables false
set_option linter.unusedSimpArgs false

theorem expo_eq (s : Int) : (wrap64 (s.tmod 1152921504606845789 + 1152921504606845789)).tmod 1152921504606845789 = s % 1152921504606845789 := by
  have e0 := Int.emod_nonneg s (show (1152921504606845789 : Int) ≠ 0 by omega)
  have e1 := Int.emod_lt_of_pos s (show (0 : Int) < 1152921504606845789 by omega)
  by_cases h0 : 0 ≤ s
  · rw [Int.tmod_eq_emod_of_nonneg h0, show wrap64 (s % 1152921504606845789 + 1152921504606845789) = s % 1152921504606845789 + 1152921504606845789 by unfold wrap64; omega, Int.tmod_eq_emod_of_nonneg (by omega)]
    omega
  · obtain ⟨h1, h2, h3, h4⟩ := tmod_neg s 1152921504606845789 (by omega) (by omega)
    generalize s.tmod 1152921504606845789 = t at *
    rw [show wrap64 (t + 1152921504606845789) = t + 1152921504606845789 by unfold wrap64; omega, Int.tmod_eq_emod_of_nonneg (by omega)]
    by_cases h : t < 0
    · have := h1 h; omega
    · have := h2 h; omega
theorem expo_any (s : Int) (w : World) (hs : I64 s) :
    Calls Tryz.prog 114 #[.int .i64 s] w fun e w' => e = .returned (.int .i64 (s % 1152921504606845789)) ∧ w = w' := by
  obtain ⟨h1, h2⟩ := hs
  have HE := Lib.hid (expo_eq s)
  go_enter Tryz.func114, Tryz.ntmps114
  go_wp2_with fail
  go_ret
  exact ⟨ret_int HE.out, rfl⟩
/-- the public key of an exponent -/
def pubK (x : Int) : Int := pm 4 x.toNat 2305843009213691579
theorem pm_range (a : Int) (n : Nat) (m : Int) (hm : 1 ≤ m) : 0 ≤ pm a n m ∧ pm a n m < m := by
  unfold pm
  exact ⟨Int.emod_nonneg _ (by omega), Int.emod_lt_of_pos _ (by omega)⟩
theorem public_any (s : Int) (w : World) (hs : I64 s) :
    Calls Tryz.prog 90 #[.int .i64 s] w fun e w' => e = .returned (.int .i64 (pubK (s % 1152921504606845789))) ∧ Only (fun _ => False) w w' := by
  have H1 := Lib.hid hs
  have hx : 0 ≤ s % 1152921504606845789 ∧ s % 1152921504606845789 < 1152921504606845789 := by omega
  obtain ⟨x, hxe⟩ : ∃ x, x = s % 1152921504606845789 := ⟨_, rfl⟩
  rw [← hxe] at hx ⊢
  have HX := Lib.hid hxe.symm
  have HP := Lib.hid (show pubK x = pm 4 x.toNat 2305843009213691579 from rfl)
  clear hs hxe
  go_enter Tryz.func90, Tryz.ntmps90
  go_wp2_with fail
  refine (expo_any s _ H1.out).mono ?_
  rintro e w1 ⟨rfl, rfl⟩
  rw [HX.out]
  go_wp2_with fail
  refine (pow_any 4 x 2305843009213691579 _ (by omega) (by omega) (by unfold I64; omega) (by omega) (by omega)).mono ?_
  rintro e w1 ⟨rfl, o1⟩
  rw [← HP.out]
  obtain ⟨y, hy⟩ : ∃ y, y = pubK x := ⟨_, rfl⟩
  rw [← hy]
  have HY := Lib.hid hy
  clear hy
  go_wp2_with fail
  go_ret
  exact ⟨by rw [← HY.out]; rfl, o1⟩
/-- the challenge of a signature -/
def chal (r key : Int) (text : List UInt8) : Int := scal (hashT [99] text [r, key])
theorem challenge_any (r key : Int) (text : ByteArray) (w : World) (hs : text.size ≤ 140737488351900) :
    Calls Tryz.prog 115 #[.int .i64 r, .int .i64 key, .string text] w fun e w' => e = .returned (.int .i64 (chal r key text.data.toList)) ∧ Only (fun _ => False) w w' := by
  have hN := At.new w 3 [.int .i64 r, .int .i64 key]
  have HH := Lib.hid (hash_any ⟨#[99]⟩ text [r, key] (some ⟨w.heap.size, 0, none⟩) w.heap.size 2 2 (w.alloc (.cells [.int .i64 r, .int .i64 key].toArray 3)) rfl (by omega) (fun _ => rfl) (fun k v hv => hN.cell (i := k) (by match k, hv with | 0, hv => cases hv; rfl | 1, hv => cases hv; rfl)) (by show 1 + text.size ≤ _; omega))
  have HC := Lib.hid (show chal r key text.data.toList = scal (hashT (ByteArray.mk #[99]).data.toList text.data.toList [r, key]) from rfl)
  clear hN hs
  go_enter Tryz.func115, Tryz.ntmps115
  go_wp2_with fail
  refine HH.out.mono ?_
  rintro e w1 ⟨rfl, o1⟩
  rw [← HC.out]
  obtain ⟨y, hy⟩ : ∃ y, y = chal r key text.data.toList := ⟨_, rfl⟩
  rw [← hy]
  have HY := Lib.hid hy
  clear hy
  go_wp2_with fail
  go_ret
  exact ⟨by rw [← HY.out]; rfl, ((Only.refl _ w).alloc _).trans o1 (fun _ _ h => h)⟩
/-- a key out of a seed -/
def keyS (seed : List UInt8) : Int := max (scal (hashT [107] seed [])) 1
theorem keyS_range (seed : List UInt8) : 1 ≤ keyS seed ∧ keyS seed < 1152921504606845789 := by
  have := scal_range (hashT [107] seed [])
  unfold keyS
  omega
theorem key_any (seed : ByteArray) (w : World) (hs : seed.size ≤ 140737488351900) :
    Calls Tryz.prog 38 #[.string seed] w fun e w' => e = .returned (.tuple #[.int .i64 (keyS seed.data.toList), .int .i64 (pubK (keyS seed.data.toList))]) ∧ Only (fun _ => False) w w' := by
  have HH := Lib.hid (hash_any ⟨#[107]⟩ seed [] none 0 0 0 w rfl (by omega) (fun h => absurd h (by omega)) (fun k v hv => by simp at hv) (by show 1 + seed.size ≤ _; omega))
  have HC := Lib.hid (show keyS seed.data.toList = max (scal (hashT (ByteArray.mk #[107]).data.toList seed.data.toList [])) 1 from rfl)
  have HR := Lib.hid (keyS_range seed.data.toList)
  obtain ⟨y, hy⟩ : ∃ y, y = keyS seed.data.toList := ⟨_, rfl⟩
  rw [← hy] at HC HR ⊢
  clear hs hy
  go_enter Tryz.func38, Tryz.ntmps38
  go_wp2_with fail
  refine HH.out.mono ?_
  rintro e w1 ⟨rfl, o1⟩
  generalize scal (hashT (ByteArray.mk #[107]).data.toList seed.data.toList []) = z at *
  go_wp2_with fail
  rw [← HC.out]
  refine (public_any y _ (by have := HR.out; unfold I64; omega)).mono ?_
  rintro e w2 ⟨rfl, o2⟩
  rw [show y % 1152921504606845789 = y by have := HR.out; omega]
  obtain ⟨p, hp⟩ : ∃ p, p = pubK y := ⟨_, rfl⟩
  rw [← hp]
  have HP := Lib.hid hp
  clear hp
  go_wp2_with fail
  go_ret2
  exact ⟨by rw [← HP.out]; rfl, o1.trans o2 (fun _ _ h => h)⟩
theorem infoSig : (Tryz.prog.info? 69).map (·.size) = some 2 := by kernel_rfl
/-- signature: n, R, S -/
def nonceS (secret : Int) (text : List UInt8) : Int := max (scal (hashT [110] text [secret % 1152921504606845789])) 1
def sigR (secret : Int) (text : List UInt8) : Int := pubK (nonceS secret text)
def sigS (secret : Int) (text : List UInt8) : Int := (nonceS secret text + (secret % 1152921504606845789) * chal (sigR secret text) (pubK (secret % 1152921504606845789)) text % 1152921504606845789) % 1152921504606845789
theorem nonceS_range (x : Int) (t : List UInt8) : 1 ≤ nonceS x t ∧ nonceS x t < 1152921504606845789 := by
  have := scal_range (hashT [110] t [x % 1152921504606845789])
  unfold nonceS
  omega
set_option maxRecDepth 100000 in
theorem sign_any (secret : Int) (text : ByteArray) (w : World) (hx : I64 secret) (hs : text.size ≤ 140737488351900) :
    Calls Tryz.prog 82 #[.int .i64 secret, .string text] w fun e w' => e = .returned (.agg #[.int .i64 (sigR secret text.data.toList), .int .i64 (sigS secret text.data.toList)]) ∧ Only (fun _ => False) w w' := by
  have HX := Lib.hid hx
  obtain ⟨x, hxe⟩ : ∃ x, x = secret % 1152921504606845789 := ⟨_, rfl⟩
  have hxr : 0 ≤ x ∧ x < 1152921504606845789 := by omega
  have HXE := Lib.hid hxe.symm
  have HXR := Lib.hid hxr
  have HM := Lib.hid (show x % 1152921504606845789 = x by omega)
  have HZ := Lib.hid hs
  obtain ⟨n, hn⟩ : ∃ n, n = nonceS secret text.data.toList := ⟨_, rfl⟩
  have HN := Lib.hid (show n = max (scal (hashT (ByteArray.mk #[110]).data.toList text.data.toList [x])) 1 by rw [hn, hxe]; rfl)
  have HNR := Lib.hid (show 1 ≤ n ∧ n < 1152921504606845789 by rw [hn]; exact nonceS_range _ _)
  obtain ⟨r, hr⟩ : ∃ r, r = pubK n := ⟨_, rfl⟩
  have HRR := Lib.hid (show 0 ≤ r ∧ r < 2305843009213691579 by rw [hr]; exact pm_range _ _ _ (by omega))
  have HRE := Lib.hid (show pm 4 n.toNat 2305843009213691579 = r by rw [hr]; rfl)
  obtain ⟨k, hk⟩ : ∃ k, k = pubK x := ⟨_, rfl⟩
  have HK := Lib.hid hk.symm
  obtain ⟨c, hc⟩ : ∃ c, c = chal r k text.data.toList := ⟨_, rfl⟩
  have HC := Lib.hid hc.symm
  have HCR := Lib.hid (show 0 ≤ c ∧ c < 1152921504606845789 by rw [hc]; exact scal_range _)
  have HA := Lib.hid (show sigR secret text.data.toList = r by rw [hr, hn]; rfl)
  have HB := Lib.hid (show sigS secret text.data.toList = (n + x * c % 1152921504606845789) % 1152921504606845789 by rw [hc, hk, hr, hn, hxe]; rfl)
  have nw := At.new (w.alloc (.cells [.int .i64 0, .int .i64 0].toArray 69)) 3 [.int .i64 x]
  rw [show (w.alloc (.cells [.int .i64 0, .int .i64 0].toArray 69)).heap.size = w.heap.size + 1 by simp] at nw
  have NW := Lib.hid nw
  have A0 := Lib.hid ((At.new w 69 [.int .i64 0, .int .i64 0]).only ((Only.refl (fun _ => False) _).alloc (.cells [.int .i64 x].toArray 3)) (fun h => h))
  have O0 := Lib.hid ((((Only.refl (fun _ => False) w).alloc (.cells [.int .i64 0, .int .i64 0].toArray 69))).alloc (.cells [.int .i64 x].toArray 3))
  clear nw
  rw [HA.out, HB.out]
  clear hx hxe hxr hs hn hr hk hc HA HB
  go_enter Tryz.func82, Tryz.ntmps82
  go_wp2_with fail
  refine (expo_any secret _ HX.out).mono ?_
  rintro e w1 ⟨rfl, rfl⟩
  rw [HXE.out]
  go_wp2_with fail
  refine (hash_any ⟨#[110]⟩ text [x] (some ⟨w.heap.size + 1, 0, none⟩) (w.heap.size + 1) 1 1 _ rfl (by omega) (fun _ => rfl) (fun k v hv => NW.out.cell (i := k) (by match k, hv with | 0, hv => cases hv; rfl)) (by have := HZ.out; show 1 + text.size ≤ _; omega)).mono ?_
  rintro e w2 ⟨rfl, o2⟩
  have A2 := Lib.hid (A0.out.only o2 (fun h => h))
  have O2 := Lib.hid (O0.out.trans o2 (fun _ _ h => h))
  clear o2 A0 O0 NW
  generalize scal (hashT (ByteArray.mk #[110]).data.toList text.data.toList [x]) = z at *
  go_wp2_with fail
  rw [← HN.out]
  refine (pow_any 4 n 2305843009213691579 _ (by omega) (by omega) (by unfold I64; omega) (by have := HNR.out; omega) (by have := HNR.out; omega)).mono ?_
  rintro e w3 ⟨rfl, o3⟩
  rw [HRE.out]
  have A3 := Lib.hid (A2.out.only o3 (fun h => h))
  have O3 := Lib.hid (O2.out.trans o3 (fun _ _ h => h))
  clear o3 A2 O2
  go_wp2_with fail
  refine (public_any x _ (by have := HXR.out; unfold I64; omega)).mono ?_
  rintro e w4 ⟨rfl, o4⟩
  rw [HM.out, HK.out]
  have A4 := Lib.hid (A3.out.only o4 (fun h => h))
  have O4 := Lib.hid (O3.out.trans o4 (fun _ _ h => h))
  clear o4 A3 O3
  go_wp2_with fail
  refine (challenge_any r k text _ HZ.out).mono ?_
  rintro e w5 ⟨rfl, o5⟩
  rw [HC.out]
  have A5 := Lib.hid (A4.out.only o5 (fun h => h))
  have O5 := Lib.hid (O4.out.trans o5 (fun _ _ h => h))
  clear o5 A4 O4
  go_wp2_with fail
  refine (mul_any x c 1152921504606845789 _ (by omega) (by omega) (by have := HXR.out; unfold I64; omega) (by have := HCR.out; unfold I64; omega)).mono ?_
  rintro e w6 ⟨rfl, j, rfl⟩
  obtain ⟨y, hy⟩ : ∃ y, y = x * c % 1152921504606845789 := ⟨_, rfl⟩
  have HY := Lib.hid hy
  have HYR := Lib.hid (show 0 ≤ y ∧ y < 1152921504606845789 by rw [hy]; exact ⟨Int.emod_nonneg _ (by omega), Int.emod_lt_of_pos _ (by omega)⟩)
  rw [← hy]
  clear hy
  go_wp2_with fail
  refine (add_any n y 1152921504606845789 _ (by omega) (by omega) (by have := HNR.out; unfold I64; omega) (by have := HYR.out; unfold I64; omega)).mono ?_
  rintro e w7 ⟨rfl, rfl⟩
  obtain ⟨v, hv⟩ : ∃ v, v = (n + y) % 1152921504606845789 := ⟨_, rfl⟩
  have HV := Lib.hid hv
  rw [← hv]
  clear hv
  have a6 := A5.out.drewN j
  have c0 := a6.cell (i := 0) rfl
  have c1 := a6.cell (i := 1) rfl
  have f0 := a6.frozen 0
  have f1 := a6.frozen 1
  clear a6
  go_wp2_with fail
  have hE : At _ w.heap.size 69 [.int .i64 r, .int .i64 v] := ((A5.out.drewN j).put 0 (.int .i64 r)).put 1 (.int .i64 v)
  refine bodyPost_ret (results_all rfl _ w.heap.size rfl 69 [.int .i64 r, .int .i64 v] _ hE Tryz.underlying69 rfl infoSig) rfl ⟨?_, ?_⟩
  · rw [HV.out, HY.out]
  · exact ((O5.out.drewN j).put (p := ⟨w.heap.size, 0, none⟩) (fun h => absurd h (Nat.lt_irrefl _)) _).put (p := ⟨w.heap.size, 1, none⟩) (fun h => absurd h (Nat.lt_irrefl _)) _
/-- is a signature accepted -/
def verB (key : Int) (text : List UInt8) (r s : Int) : Bool :=
  memB key && (memB r && (decide (0 ≤ s) && (decide (s < 1152921504606845789) && (pm 4 s.toNat 2305843009213691579 == r * pm key (chal r key text).toNat 2305843009213691579 % 2305843009213691579))))
theorem mul_only (a b m : Int) (w : World) (hm : 1 ≤ m) (hm2 : m ≤ 9223372036854775807) (ha : I64 a) (hb : I64 b) :
    Calls Tryz.prog 33 #[.int .i64 a, .int .i64 b, .int .i64 m] w fun e w' => e = .returned (.int .i64 (a * b % m)) ∧ Only (fun _ => False) w w' :=
  (mul_any a b m w hm hm2 ha hb).mono (fun e w' h => by obtain ⟨h1, n, rfl⟩ := h; exact ⟨h1, (Only.refl _ w).drewN n⟩)
theorem keepS {w X W : World} {g : Nat} {r s : Int} (h : X.cell? ⟨g, 0, none⟩ = some (.int .i64 r) ∧ X.cell? ⟨g, 1, none⟩ = some (.int .i64 s) ∧ Hid (Only (fun _ => False) w X)) (o : Only (fun _ => False) X W) :
    W.cell? ⟨g, 0, none⟩ = some (.int .i64 r) ∧ W.cell? ⟨g, 1, none⟩ = some (.int .i64 s) ∧ Hid (Only (fun _ => False) w W) :=
  ⟨o.cell h.1 (fun h => h), o.cell h.2.1 (fun h => h), h.2.2.out.trans o (fun _ _ h => h)⟩
theorem endS {w W : World} {g : Nat} {r s : Int} (h : W.cell? ⟨g, 0, none⟩ = some (.int .i64 r) ∧ W.cell? ⟨g, 1, none⟩ = some (.int .i64 s) ∧ Hid (Only (fun _ => False) w W)) : Only (fun _ => False) w W := h.2.2.out
theorem memB_range {a : Int} (h : memB a = true) : 1 ≤ a ∧ a < 2305843009213691579 := by
  unfold memB at h
  have := of_decide_eq_true h
  omega
set_option maxRecDepth 100000 in
theorem verify_any (key : Int) (text : ByteArray) (r s : Int) (w : World) (hk : I64 key) (hr : I64 r) (hsg : I64 s) (hs : text.size ≤ 140737488351900) :
    Calls Tryz.prog 84 #[.int .i64 key, .string text, .agg #[.int .i64 r, .int .i64 s]] w fun e w' => e = .returned (.bool (verB key text.data.toList r s)) ∧ Only (fun _ => False) w w' := by
  have HK := Lib.hid hk
  have HR := Lib.hid hr
  have HZ := Lib.hid hs
  have A0 := Lib.hid (At.new w 69 [.int .i64 r, .int .i64 s])
  have O0 := Lib.hid ((Only.refl (fun _ => False) w).alloc (.cells [.int .i64 r, .int .i64 s].toArray 69))
  have MK := Lib.hid (fun w => member_any key w hk)
  have MR := Lib.hid (fun w => member_any r w hr)
  have HV := Lib.hid (show verB key text.data.toList r s = (memB key && (memB r && (decide (0 ≤ s) && (decide (s < 1152921504606845789) && (pm 4 s.toNat 2305843009213691579 == r * pm key (chal r key text.data.toList).toNat 2305843009213691579 % 2305843009213691579))))) from rfl)
  clear hk hr hs
  by_cases h1 : memB key = true
  · have HKR := Lib.hid (memB_range h1)
    by_cases h2 : memB r = true
    · have HRR := Lib.hid (memB_range h2)
      by_cases h3 : 0 ≤ s
      · by_cases h4 : s < 1152921504606845789
        · rw [h1, h2, decide_eq_true h3, decide_eq_true h4, Bool.true_and, Bool.true_and, Bool.true_and, Bool.true_and] at HV
          rw [h1] at MK
          rw [h2] at MR
          go_enter Tryz.func84, Tryz.ntmps84
          go_wp2_with fail
          refine (MK.out _).mono ?_
          rintro e w1 ⟨rfl, o1⟩
          have A1 := Lib.hid (A0.out.only o1 (fun h => h))
          have O1 := Lib.hid (O0.out.trans o1 (fun _ _ h => h))
          have c0 := A1.out.cell (i := 0) rfl
          have c1 := A1.out.cell (i := 1) rfl
          clear o1 A0 O0
          go_wp2_with fail
          refine (MR.out _).mono ?_
          rintro e w2 ⟨rfl, o2⟩
          have A2 := Lib.hid (A1.out.only o2 (fun h => h))
          have O2 := Lib.hid (O1.out.trans o2 (fun _ _ h => h))
          have d0 := A2.out.cell (i := 0) rfl
          have d1 := A2.out.cell (i := 1) rfl
          clear o2 A1 O1 c0 c1
          obtain ⟨e, he⟩ : ∃ e, e = chal r key text.data.toList := ⟨_, rfl⟩
          have HE := Lib.hid (show 0 ≤ e ∧ e < 1152921504606845789 by rw [he]; exact scal_range _)
          obtain ⟨a, ha⟩ : ∃ a, a = pm 4 s.toNat 2305843009213691579 := ⟨_, rfl⟩
          obtain ⟨b, hb⟩ : ∃ b, b = pm key e.toNat 2305843009213691579 := ⟨_, rfl⟩
          have HBR := Lib.hid (show 0 ≤ b ∧ b < 2305843009213691579 by rw [hb]; exact pm_range _ _ _ (by omega))
          obtain ⟨c, hc⟩ : ∃ c, c = r * b % 2305843009213691579 := ⟨_, rfl⟩
          rw [← he, ← ha, ← hb, ← hc] at HV
          have HCE := Lib.hid he.symm
          have PA := Lib.hid (show ∀ W, Calls Tryz.prog 32 #[.int .i64 4, .int .i64 s, .int .i64 2305843009213691579] W fun e w' => e = .returned (.int .i64 a) ∧ Only (fun _ => False) W w' from fun W => by rw [ha]; exact pow_any 4 s _ W (by omega) (by omega) (by unfold I64; omega) h3 (by omega))
          have PB := Lib.hid (show ∀ W, Calls Tryz.prog 32 #[.int .i64 key, .int .i64 e, .int .i64 2305843009213691579] W fun e w' => e = .returned (.int .i64 b) ∧ Only (fun _ => False) W w' from fun W => by rw [hb]; exact pow_any key e _ W (by omega) (by omega) HK.out HE.out.1 (by have := HE.out; omega))
          have PC := Lib.hid (show ∀ W, Calls Tryz.prog 33 #[.int .i64 r, .int .i64 b, .int .i64 2305843009213691579] W fun e w' => e = .returned (.int .i64 c) ∧ Only (fun _ => False) W w' from fun W => by rw [hc]; exact mul_only r b _ W (by omega) (by omega) HR.out (by have := HBR.out; unfold I64; omega))
          clear he ha hb hc
          go_wp2_with fail
          refine (challenge_any r key text _ HZ.out).mono ?_
          rintro e' w3 ⟨rfl, o3⟩
          rw [HCE.out]
          have A3 := Lib.hid (A2.out.only o3 (fun h => h))
          have O3 := Lib.hid (O2.out.trans o3 (fun _ _ h => h))
          clear o3 A2 O2 d0 d1
          go_wp2_with fail
          go_region_held3 (fun W => W.cell? ⟨w.heap.size, 0, none⟩ = some (.int .i64 r) ∧ W.cell? ⟨w.heap.size, 1, none⟩ = some (.int .i64 s) ∧ Hid (Only (fun _ => False) w W)) ((first | exact keepS (by assumption) (by assumption) | exact ⟨(A3.out.drewN 1).cell (i := 0) rfl, (A3.out.drewN 1).cell (i := 1) rfl, O3.out.drewN 1⟩)) (first | (go_at_call_of 32 (Value.int IntKind.i64 4); refine (PA.out _).mono ?_; rintro e' w4 ⟨rfl, o4⟩) | (go_at_call_of 32 (Value.int IntKind.i64 key); refine (PB.out _).mono ?_; rintro e' w5 ⟨rfl, o5⟩) | (go_at_call 33; refine (PC.out _).mono ?_; rintro e' w6 ⟨rfl, o6⟩))
          all_goals go_wp2_with fail
          all_goals go_ret
          all_goals exact ⟨by rw [HV.out]; rfl, endS (g := w.heap.size) (r := r) (s := s) (by assumption)⟩
        · rw [h1, h2, decide_eq_true h3, decide_eq_false h4, Bool.false_and, Bool.and_false, Bool.and_false, Bool.and_false] at HV
          rw [h1] at MK
          rw [h2] at MR
          go_enter Tryz.func84, Tryz.ntmps84
          go_wp2_with fail
          refine (MK.out _).mono ?_
          rintro e w1 ⟨rfl, o1⟩
          have A1 := Lib.hid (A0.out.only o1 (fun h => h))
          have O1 := Lib.hid (O0.out.trans o1 (fun _ _ h => h))
          have c0 := A1.out.cell (i := 0) rfl
          have c1 := A1.out.cell (i := 1) rfl
          clear o1 A0 O0
          go_wp2_with fail
          refine (MR.out _).mono ?_
          rintro e w2 ⟨rfl, o2⟩
          have A2 := Lib.hid (A1.out.only o2 (fun h => h))
          have O2 := Lib.hid (O1.out.trans o2 (fun _ _ h => h))
          have d0 := A2.out.cell (i := 0) rfl
          have d1 := A2.out.cell (i := 1) rfl
          clear o2 A1 O1 c0 c1
          go_wp2_with fail
          go_ret
          exact ⟨by rw [HV.out]; rfl, O2.out⟩
      · rw [h1, h2, decide_eq_false h3, Bool.false_and, Bool.and_false, Bool.and_false] at HV
        rw [h1] at MK
        rw [h2] at MR
        go_enter Tryz.func84, Tryz.ntmps84
        go_wp2_with fail
        refine (MK.out _).mono ?_
        rintro e w1 ⟨rfl, o1⟩
        have A1 := Lib.hid (A0.out.only o1 (fun h => h))
        have O1 := Lib.hid (O0.out.trans o1 (fun _ _ h => h))
        have c0 := A1.out.cell (i := 0) rfl
        have c1 := A1.out.cell (i := 1) rfl
        clear o1 A0 O0
        go_wp2_with fail
        refine (MR.out _).mono ?_
        rintro e w2 ⟨rfl, o2⟩
        have A2 := Lib.hid (A1.out.only o2 (fun h => h))
        have O2 := Lib.hid (O1.out.trans o2 (fun _ _ h => h))
        have d0 := A2.out.cell (i := 0) rfl
        have d1 := A2.out.cell (i := 1) rfl
        clear o2 A1 O1 c0 c1
        go_wp2_with fail
        go_ret
        exact ⟨by rw [HV.out]; rfl, O2.out⟩
    · have h2' : memB r = false := by simpa using h2
      rw [h1, h2', Bool.false_and, Bool.and_false] at HV
      rw [h1] at MK
      rw [h2'] at MR
      go_enter Tryz.func84, Tryz.ntmps84
      go_wp2_with fail
      refine (MK.out _).mono ?_
      rintro e w1 ⟨rfl, o1⟩
      have A1 := Lib.hid (A0.out.only o1 (fun h => h))
      have O1 := Lib.hid (O0.out.trans o1 (fun _ _ h => h))
      have c0 := A1.out.cell (i := 0) rfl
      have c1 := A1.out.cell (i := 1) rfl
      clear o1 A0 O0
      go_wp2_with fail
      refine (MR.out _).mono ?_
      rintro e w2 ⟨rfl, o2⟩
      have A2 := Lib.hid (A1.out.only o2 (fun h => h))
      have O2 := Lib.hid (O1.out.trans o2 (fun _ _ h => h))
      have d0 := A2.out.cell (i := 0) rfl
      have d1 := A2.out.cell (i := 1) rfl
      clear o2 A1 O1 c0 c1
      go_wp2_with fail
      go_ret
      exact ⟨by rw [HV.out]; rfl, O2.out⟩
  · have h1' : memB key = false := by simpa using h1
    rw [h1', Bool.false_and] at HV
    rw [h1'] at MK
    go_enter Tryz.func84, Tryz.ntmps84
    go_wp2_with fail
    refine (MK.out _).mono ?_
    rintro e w1 ⟨rfl, o1⟩
    have A1 := Lib.hid (A0.out.only o1 (fun h => h))
    have O1 := Lib.hid (O0.out.trans o1 (fun _ _ h => h))
    have c0 := A1.out.cell (i := 0) rfl
    have c1 := A1.out.cell (i := 1) rfl
    clear o1 A0 O0
    go_wp2_with fail
    go_ret
    exact ⟨by rw [HV.out]; rfl, O1.out⟩
end Go.Proofs.YtoekhpnapnhefaaGreatDoor

namespace Go.Proofs.YtoekhpnapnhefaaGreatDoor
open Go.RowKit Go.Shelf
set_option linter.unusedVariables false
set_option linter.unusedSimpArgs false

/-- the library's table of powers of ten -/
def Tab (w : World) : Prop := Lib.TabIs Tryz.prog w "internal/strconv.uint64pow10" .u64 Lib.pow10Tab
theorem Tab.only {w w' : World} (h : Tab w) (o : Only (fun _ => False) w w') : Tab w' := by
  unfold Tab Lib.TabIs World.var? at h ⊢
  cases hg : Tryz.prog.globalNamed "internal/strconv.uint64pow10" with
  | none => simp [hg] at h
  | some g =>
    simp only [hg, Option.bind_some] at h ⊢
    have hlt : g < w.heap.size := by
      rcases Nat.lt_or_ge g w.heap.size with h' | h'
      · exact h'
      · simp [Array.getElem?_eq_none h'] at h
    rw [o.same g hlt (fun h => h)]
    exact h
theorem ByteArray.mk_append_mk' (a b : List UInt8) : (ByteArray.mk a.toArray) ++ (ByteArray.mk b.toArray) = ByteArray.mk (a ++ b).toArray := by
  apply ByteArray.ext; simp [ByteArray.data_append]
theorem only_bytesWorld (w : World) (t : ByteArray) : Only (fun _ => False) w (Go.Lib.bytesWorld w 5 t) := by
  refine ⟨?_, ?_, ?_, ?_, ?_⟩
  · simp [Go.Lib.bytesWorld, World.freeze, World.alloc, World.drew, -World.alloc_eq, -World.drew_eq]
  · simp [Go.Lib.bytesWorld, World.freeze, World.alloc, World.drew, -World.alloc_eq, -World.drew_eq]
  · simp [Go.Lib.bytesWorld, World.freeze, World.alloc, World.drew, -World.alloc_eq, -World.drew_eq]
  · rw [Go.Lib.bytesWorld_size]; omega
  · intro j hj _; exact Go.Lib.bytesWorld_at_old w _ t j hj
theorem results_cell_tmp {P : Program} {w : World} {fn : Func} {p q : Tmp} {ty : TypeId} (hf : fn.results = #[.cell p ty, .tmp q]) (tmps : Array Value) (g : Nat) (hp : tmps.getD p undef = .pointer (some ⟨g, 0, none⟩)) (t : TypeId) (cs : List Value) (d : TypeDesc) (hg : At w g t cs)
    (hu : P.underlying ty = some d) (hd : d.isRow = true) (hi : (P.info? ty).map (·.size) = some cs.length) (v : Value) (hv : tmps.getD q undef = v) :
    (results fn tmps).run P w = .ok (.tuple #[.agg cs.toArray, v]) w := by
  have hr := run_loadVar_mid (P := P) w g 0 ty cs d hg.range hu hd hi
  have hp' : tmps[p]?.getD undef = .pointer (some ⟨g, 0, none⟩) := by rw [← Array.getD_eq_getD_getElem?]; exact hp
  have hv' : tmps[q]?.getD undef = v := by rw [← Array.getD_eq_getD_getElem?]; exact hv
  simp only [results, hf]
  simp [Sem.run_bind, Result.andThen, hp', hv', asAddr, hr]
theorem only_grow (w : World) (os : Array Obj) : Only (fun _ => False) w (Sort.grow w os) := ⟨rfl, rfl, rfl, by simp [Sort.grow], fun k hk _ => by simp [Sort.grow, Array.getElem?_append, hk]⟩
theorem itoa_any (n : Int) (hn : I64 n) (w0 w : World) (ht : Tab w0) (o : Only (fun _ => False) w0 w) :
    Calls Tryz.prog 92 #[.int .i64 n] w fun e w' => e = .returned (.string ⟨(Lib.itoa n).toArray⟩) ∧ Only (fun _ => False) w w' :=
  (Tryz.strconv_Itoa n hn.1 hn.2 w (ht.only o)).mono (fun e w' h => by obtain ⟨h1, k, os, rfl⟩ := h; exact ⟨h1, ((Only.refl _ w).drewN k).trans (only_grow _ os) (fun _ _ h => h)⟩)
/-- the text of two numbers -/
def txt (r s : Int) : List UInt8 := Lib.itoa r ++ 46 :: Lib.itoa s
theorem keepT {w X W : World} {g : Nat} {r s : Int} (h : X.cell? ⟨g, 0, none⟩ = some (.int .i64 r) ∧ X.cell? ⟨g, 1, none⟩ = some (.int .i64 s) ∧ Hid (Only (fun _ => False) w X)) (o : Only (fun _ => False) X W) :
    W.cell? ⟨g, 0, none⟩ = some (.int .i64 r) ∧ W.cell? ⟨g, 1, none⟩ = some (.int .i64 s) ∧ Hid (Only (fun _ => False) w W) := keepS h o
set_option maxRecDepth 100000 in
theorem text_any (r s : Int) (hr : I64 r) (hs : I64 s) (w : World) (ht : Tab w) :
    Calls Tryz.prog 85 #[.agg #[.int .i64 r, .int .i64 s]] w fun e w' => e = .returned (.string ⟨(txt r s).toArray⟩) ∧ Only (fun _ => False) w w' := by
  have A0 := Lib.hid (At.new w 69 [.int .i64 r, .int .i64 s])
  have O0 := Lib.hid ((Only.refl (fun _ => False) w).alloc (.cells [.int .i64 r, .int .i64 s].toArray 69))
  obtain ⟨x, hx⟩ : ∃ x, x = ByteArray.mk (Lib.itoa r).toArray := ⟨_, rfl⟩
  obtain ⟨y, hy⟩ : ∃ y, y = ByteArray.mk (Lib.itoa s).toArray := ⟨_, rfl⟩
  have hxz : x.size ≤ 21 := by rw [hx]; exact Lib.itoa_length_le r hr.1 hr.2
  have hyz : y.size ≤ 21 := by rw [hy]; exact Lib.itoa_length_le s hs.1 hs.2
  obtain ⟨t, hte⟩ : ∃ t, t = x ++ ByteArray.mk #[46] ++ y := ⟨_, rfl⟩
  have HT := Lib.hid (show ByteArray.mk (txt r s).toArray = t by rw [hte, hx, hy, ByteArray.mk_append_mk', ByteArray.mk_append_mk']; simp [txt])
  have HTE := Lib.hid hte.symm
  have hneg1 : ¬ (9223372036854775807 < x.size + 1) := by omega
  have hneg2 : ¬ (9223372036854775807 < x.size + 1 + y.size) := by omega
  have IA := Lib.hid (show ∀ W, Only (fun _ => False) w W → Calls Tryz.prog 92 #[.int .i64 r] W fun e w' => e = .returned (.string x) ∧ Only (fun _ => False) W w' from fun W o => by rw [hx]; exact itoa_any r hr w W ht o)
  have IB := Lib.hid (show ∀ W, Only (fun _ => False) w W → Calls Tryz.prog 92 #[.int .i64 s] W fun e w' => e = .returned (.string y) ∧ Only (fun _ => False) W w' from fun W o => by rw [hy]; exact itoa_any s hs w W ht o)
  clear hx hy hte hr hs ht hxz hyz
  go_enter Tryz.func85, Tryz.ntmps85
  go_wp2_with fail
  go_region_held3 (fun W => W.cell? ⟨w.heap.size, 0, none⟩ = some (.int .i64 r) ∧ W.cell? ⟨w.heap.size, 1, none⟩ = some (.int .i64 s) ∧ Hid (Only (fun _ => False) w W)) ((first | exact keepS (by assumption) (by assumption) | exact ⟨(A0.out.drewN 1).cell (i := 0) rfl, (A0.out.drewN 1).cell (i := 1) rfl, O0.out.drewN 1⟩)) (first | (go_at_call_of 92 (Value.int IntKind.i64 r); refine (IA.out _ (endS (g := w.heap.size) (r := r) (s := s) (by assumption))).mono ?_; rintro e' w4 ⟨rfl, o4⟩) | (go_at_call_of 92 (Value.int IntKind.i64 s); refine (IB.out _ (endS (g := w.heap.size) (r := r) (s := s) (by assumption))).mono ?_; rintro e' w5 ⟨rfl, o5⟩))
  all_goals go_wp2_with fail
  all_goals go_ret
  all_goals exact ⟨by rw [HT.out, ← HTE.out]; rfl, endS (g := w.heap.size) (r := r) (s := s) (by assumption)⟩
/-- world fact: what the search for a separator asks -/
def MaxL (w : World) : Prop := ∃ m, w.cell? ⟨4, 0, none⟩ = some (.int .i64 m)
theorem MaxL.only {w w' : World} (h : MaxL w) (o : Only (fun _ => False) w w') : MaxL w' := by
  obtain ⟨m, h⟩ := h
  exact ⟨m, o.cell h (fun h => h)⟩
theorem cut_any (s : ByteArray) (w : World) (hm : MaxL w) (hs : s.size < 4294967281) (a b : ByteArray) (f : Bool) (hc : Lib.cut s.data.toList [46] = (a.data.toList, b.data.toList, f)) :
    Calls Tryz.prog 111 #[.string s, .string ⟨#[46]⟩] w fun e w' => e = .returned (.tuple #[.string a, .string b, .bool f]) ∧ Only (fun _ => False) w w' := by
  obtain ⟨m, hm⟩ := hm
  refine (Tryz.strings_Cut s ⟨#[46]⟩ m w hs hm).mono (fun e w' h => ?_)
  obtain ⟨h1, n, rfl⟩ := h
  refine ⟨?_, (Only.refl _ w).drewN n⟩
  rw [h1, show (ByteArray.mk #[46]).data.toList = [46] from rfl, hc]
theorem parse_any (s : ByteArray) (v : Int) (w : World) (h : Lib.parseIntB 64 s.data.toList = .ok v) (hs : s.size ≤ 4294967281) :
    Calls Tryz.prog 116 #[.string s, .int .i64 10, .int .i64 64] w fun e w' => e = .returned (.tuple #[.int .i64 v, .nilIface]) ∧ Only (fun _ => False) w w' := by
  refine (Tryz.strconv_ParseInt_10_at64_ok s (by omega) v h w).mono (fun e w' h => ?_)
  obtain ⟨h1, h2⟩ := h
  refine ⟨h1, ?_⟩
  rcases h2 with rfl | ⟨t, rfl⟩
  · exact Only.refl _ _
  · exact only_bytesWorld w t
set_option maxRecDepth 100000 in
theorem read_any (s a b : ByteArray) (v u : Int) (w : World) (ht : Tab w) (hm : MaxL w) (hs : s.size < 4294967281) (ha : a.size ≤ 4294967281) (hb : b.size ≤ 4294967281) (hv : I64 v) (hu : I64 u)
    (hc : Lib.cut s.data.toList [46] = (a.data.toList, b.data.toList, true)) (pa : Lib.parseIntB 64 a.data.toList = .ok v) (pb : Lib.parseIntB 64 b.data.toList = .ok u) :
    Calls Tryz.prog 83 #[.string s] w fun e w' => e = .returned (if txt v u = s.data.toList then .tuple #[.agg #[.int .i64 v, .int .i64 u], .bool true] else .tuple #[.agg #[.int .i64 0, .int .i64 0], .bool false]) ∧ Only (fun _ => False) w w' := by
  have A0 := Lib.hid (At.new w 69 [.int .i64 0, .int .i64 0])
  have O0 := Lib.hid ((Only.refl (fun _ => False) w).alloc (.cells [.int .i64 0, .int .i64 0].toArray 69))
  have CT := Lib.hid (fun W o => cut_any s W (hm.only o) hs a b true hc)
  have PA := Lib.hid (fun W => parse_any a v W pa ha)
  have PB := Lib.hid (fun W => parse_any b u W pb hb)
  obtain ⟨t, hte⟩ : ∃ t, t = ByteArray.mk (txt v u).toArray := ⟨_, rfl⟩
  have TX := Lib.hid (show ∀ W, Only (fun _ => False) w W → Calls Tryz.prog 85 #[.agg #[.int .i64 v, .int .i64 u]] W fun e w' => e = .returned (.string t) ∧ Only (fun _ => False) W w' from fun W o => by rw [hte]; exact text_any v u hv hu W (ht.only o))
  have HT := Lib.hid hte
  clear ht hm hs ha hb hc pa pb hte
  go_enter Tryz.func83, Tryz.ntmps83
  go_wp2_with fail
  refine (CT.out _ O0.out).mono ?_
  rintro e w1 ⟨rfl, o1⟩
  have A1 := Lib.hid (A0.out.only o1 (fun h => h))
  have O1 := Lib.hid (O0.out.trans o1 (fun _ _ h => h))
  clear o1 A0 O0
  go_wp2_with fail
  refine (PA.out _).mono ?_
  rintro e w2 ⟨rfl, o2⟩
  have A2 := Lib.hid (A1.out.only o2 (fun h => h))
  have O2 := Lib.hid (O1.out.trans o2 (fun _ _ h => h))
  clear o2 A1 O1
  go_wp2_with fail
  refine (PB.out _).mono ?_
  rintro e w3 ⟨rfl, o3⟩
  have A3 := Lib.hid (A2.out.only o3 (fun h => h))
  have O3 := Lib.hid (O2.out.trans o3 (fun _ _ h => h))
  clear o3 A2 O2
  go_wp2_with fail
  have B3 := Lib.hid (At.new w3 69 [.int .i64 v, .int .i64 u])
  have o3' := (Only.refl (fun _ => False) w3).alloc (.cells [.int .i64 v, .int .i64 u].toArray 69)
  refine (TX.out _ (O3.out.trans o3' (fun _ _ h => h))).mono ?_
  rintro e w4 ⟨rfl, o4⟩
  have A4 := Lib.hid ((A3.out.only o3' (fun h => h)).only o4 (fun h => h))
  have B4 := Lib.hid (B3.out.only o4 (fun h => h))
  have O4 := Lib.hid ((O3.out.trans o3' (fun _ _ h => h)).trans o4 (fun _ _ h => h))
  have hne : w.heap.size ≠ w3.heap.size := by have := A3.out.lt; omega
  clear o4 o3' A3 B3 O3
  have c0 := A4.out.cell (i := 0) rfl
  have c1 := A4.out.cell (i := 1) rfl
  have f0 := A4.out.frozen 0
  have f1 := A4.out.frozen 1
  have d0 := B4.out.cell (i := 0) rfl
  have d1 := B4.out.cell (i := 1) rfl
  by_cases he : t = s
  · subst he
    have HE := Lib.hid (show txt v u = t.data.toList by rw [HT.out])
    go_wp2_with fail
    have hE : At _ w.heap.size 69 [.int .i64 v, .int .i64 u] := (A4.out.put 0 (.int .i64 v)).put 1 (.int .i64 u)
    refine bodyPost_ret (results_cell_tmp rfl _ w.heap.size rfl 69 [.int .i64 v, .int .i64 u] _ hE Tryz.underlying69 rfl infoSig (.bool true) rfl) rfl ⟨?_, ?_⟩
    · rfl
    · exact (O4.out.put (p := ⟨w.heap.size, 0, none⟩) (fun h => absurd h (Nat.lt_irrefl _)) _).put (p := ⟨w.heap.size, 1, none⟩) (fun h => absurd h (Nat.lt_irrefl _)) _
  · have HE := Lib.hid (show ¬ txt v u = s.data.toList from fun h => he (by rw [HT.out, h]))
    have hb : (t.toList == s.toList) = false := by
      rw [beq_eq_false_iff_ne, ByteArray.toList_eq, ByteArray.toList_eq]
      exact fun h => he (ByteArray.ext (Array.toList_inj.1 h))
    go_wp2_with fail
    have hE : At _ w.heap.size 69 [.int .i64 0, .int .i64 0] := (A4.out.put 0 (.int .i64 0)).put 1 (.int .i64 0)
    refine bodyPost_ret (results_cell_tmp rfl _ w.heap.size rfl 69 [.int .i64 0, .int .i64 0] _ hE Tryz.underlying69 rfl infoSig (.bool false) rfl) rfl ⟨?_, ?_⟩
    · rfl
    · exact (O4.out.put (p := ⟨w.heap.size, 0, none⟩) (fun h => absurd h (Nat.lt_irrefl _)) _).put (p := ⟨w.heap.size, 1, none⟩) (fun h => absurd h (Nat.lt_irrefl _)) _
end Go.Proofs.YtoekhpnapnhefaaGreatDoor

namespace Go.Proofs.YtoekhpnapnhefaaGreatDoor
open Go.RowKit Go.Shelf
set_option linter.unusedVariables false
set_option linter.unusedSimpArgs false

theorem sig_nat (N X E : Nat) : 4 ^ ((N + X * E % gQ) % gQ) % gP = 4 ^ N % gP * ((4 ^ X % gP) ^ E % gP) % gP := by
  have h : ((N + X * E % gQ) % gQ) % gQ = (N + X * E) % gQ := by rw [Nat.mod_mod, Nat.add_mod, Nat.mod_mod, ← Nat.add_mod]
  rw [pow_congr Mem_four.one h, ← Nat.pow_mod, ← Nat.mul_mod, ← Nat.pow_mul, ← Nat.pow_add]
theorem pm_cast (A n : Nat) : pm (A : Int) n 2305843009213691579 = ((A ^ n % gP : Nat) : Int) := pm_nat A n gP
theorem sig_int (n x e : Int) (hn : 0 ≤ n) (hx : 0 ≤ x) (he : 0 ≤ e) :
    pm 4 ((n + x * e % 1152921504606845789) % 1152921504606845789).toNat 2305843009213691579 = pm 4 n.toNat 2305843009213691579 * pm (pm 4 x.toNat 2305843009213691579) e.toNat 2305843009213691579 % 2305843009213691579 := by
  obtain ⟨N, rfl⟩ := Int.eq_ofNat_of_zero_le hn
  obtain ⟨X, rfl⟩ := Int.eq_ofNat_of_zero_le hx
  obtain ⟨E, rfl⟩ := Int.eq_ofNat_of_zero_le he
  have e1 : (((N : Int) + (X : Int) * (E : Int) % 1152921504606845789) % 1152921504606845789) = (((N + X * E % gQ) % gQ : Nat) : Int) := by
    rw [Int.natCast_emod, Int.natCast_add, Int.natCast_emod, Int.natCast_mul]; rfl
  rw [e1]
  simp only [Int.toNat_natCast]
  have h4 : ∀ k, pm 4 k 2305843009213691579 = ((4 ^ k % gP : Nat) : Int) := fun k => pm_cast 4 k
  rw [h4, h4, h4, pm_cast, sig_nat]
  rw [Int.natCast_emod (4 ^ N % gP * ((4 ^ X % gP) ^ E % gP)), Int.natCast_mul]
  rfl
theorem pubK_mem (x : Int) : memB (pubK x) = true := by
  unfold pubK
  have h4 : ∀ k, pm 4 k 2305843009213691579 = ((4 ^ k % gP : Nat) : Int) := fun k => pm_cast 4 k
  rw [h4]
  exact memB_nat (Mem_four.pow _)
theorem sigS_range (x : Int) (t : List UInt8) : 0 ≤ sigS x t ∧ sigS x t < 1152921504606845789 := by unfold sigS; omega
/-- a signature that is made is accepted -/
theorem ver_sign (secret : Int) (text : List UInt8) : verB (pubK (secret % 1152921504606845789)) text (sigR secret text) (sigS secret text) = true := by
  have hs := sigS_range secret text
  have hn := nonceS_range secret text
  have he := scal_range (hashT [99] text [sigR secret text, pubK (secret % 1152921504606845789)])
  have h := sig_int (nonceS secret text) (secret % 1152921504606845789) (chal (sigR secret text) (pubK (secret % 1152921504606845789)) text) (by omega) (by omega) he.1
  unfold verB
  rw [pubK_mem, show memB (sigR secret text) = true from pubK_mem _, decide_eq_true hs.1, decide_eq_true hs.2, Bool.true_and, Bool.true_and, Bool.true_and, Bool.true_and, beq_iff_eq]
  exact h
/-- and no other S -/
theorem ver_one {key r s t : Int} {text : List UInt8} (h : verB key text r s = true) (k : verB key text r t = true) : s = t := by
  unfold verB at h k
  simp only [Bool.and_eq_true, decide_eq_true_eq, beq_iff_eq] at h k
  obtain ⟨_, _, s0, s1, e1⟩ := h
  obtain ⟨_, _, t0, t1, e2⟩ := k
  have e := e1.trans e2.symm
  obtain ⟨S, rfl⟩ := Int.eq_ofNat_of_zero_le s0
  obtain ⟨T, rfl⟩ := Int.eq_ofNat_of_zero_le t0
  have h4 : ∀ k, pm 4 k 2305843009213691579 = ((4 ^ k % gP : Nat) : Int) := fun k => pm_cast 4 k
  rw [Int.toNat_natCast, Int.toNat_natCast, h4, h4] at e
  have e' := log_unique Mem_four (by decide) (Int.ofNat.inj e)
  have hS : S < gQ := by show S < 1152921504606845789; omega
  have hT : T < gQ := by show T < 1152921504606845789; omega
  rw [Nat.mod_eq_of_lt hS, Nat.mod_eq_of_lt hT] at e'
  rw [e']
end Go.Proofs.YtoekhpnapnhefaaGreatDoor

namespace Go.Proofs.YtoekhpnapnhefaaGreatDoor
open Go.RowKit Go.Shelf
set_option linter.unusedVariables false
set_option linter.unusedSimpArgs false

/-- structs of two ints that lie somewhere -/
def Ats (t : TypeId) (W : World) : List (Nat × List Value) → Prop
  | [] => True
  | p :: l => At W p.1 t p.2 ∧ Ats t W l
theorem Ats.only {t : TypeId} {W W' : World} (o : Only (fun _ => False) W W') : ∀ {l}, Ats t W l → Ats t W' l
  | [], _ => trivial
  | _ :: _, h => ⟨h.1.only o (fun h => h), Ats.only o h.2⟩
theorem verB_one (text : List UInt8) : verB 1 text 1 0 = true := by
  have h1 : memB 1 = true := memB_nat Mem_one
  unfold verB
  rw [h1, Bool.true_and, Bool.true_and, decide_eq_true (by omega), decide_eq_true (by omega), Bool.true_and, Bool.true_and, beq_iff_eq]
  have h : ∀ n, pm 1 n 2305843009213691579 = 1 := fun n => by unfold pm; rw [Int.one_pow]; rfl
  rw [h]
  rfl
theorem verB_zero (text : List UInt8) (r s : Int) : verB 0 text r s = false := by
  have h1 : memB 0 = false := by unfold memB; rw [decide_eq_false]; omega
  unfold verB
  rw [h1, Bool.false_and]
theorem verB_high (k r s : Int) (text : List UInt8) (h : ¬ s < 1152921504606845789) : verB k text r s = false := by
  unfold verB
  rw [decide_eq_false h, Bool.false_and, Bool.and_false, Bool.and_false, Bool.and_false]
theorem cut1 : Lib.cut (ByteArray.mk #[49, 50, 46, 51]).data.toList [46] = ((ByteArray.mk #[49, 50]).data.toList, (ByteArray.mk #[51]).data.toList, true) := by decide +kernel
theorem cut2 : Lib.cut (ByteArray.mk #[48, 49, 50, 46, 51]).data.toList [46] = ((ByteArray.mk #[48, 49, 50]).data.toList, (ByteArray.mk #[51]).data.toList, true) := by decide +kernel
theorem par1 : Lib.parseIntB 64 (ByteArray.mk #[49, 50]).data.toList = .ok 12 := by decide +kernel
theorem par2 : Lib.parseIntB 64 (ByteArray.mk #[48, 49, 50]).data.toList = .ok 12 := by decide +kernel
theorem par3 : Lib.parseIntB 64 (ByteArray.mk #[51]).data.toList = .ok 3 := by decide +kernel
theorem txt1 : txt 12 3 = (ByteArray.mk #[49, 50, 46, 51]).data.toList := by decide +kernel
theorem txt2 : ¬ txt 12 3 = (ByteArray.mk #[48, 49, 50, 46, 51]).data.toList := by decide +kernel
theorem txt3 : ByteArray.mk (txt 12 (-3)).toArray = ByteArray.mk #[49, 50, 46, 45, 51] := by rw [show txt 12 (-3) = [49, 50, 46, 45, 51] by decide +kernel]
end Go.Proofs.YtoekhpnapnhefaaGreatDoor

namespace Go.Proofs.YtoekhpnapnhefaaGreatDoor
open Go.RowKit Go.Shelf
set_option linter.unusedVariables false
set_option linter.unusedSimpArgs false

theorem at3 (W : World) (t : TypeId) (x y z : List Value) : Ats t (((W.alloc (.cells x.toArray t)).alloc (.cells y.toArray t)).alloc (.cells z.toArray t)) [(W.heap.size, x), (W.heap.size + 1, y), (W.heap.size + 1 + 1, z)] := by
  have e1 : (W.alloc (.cells x.toArray t)).heap.size = W.heap.size + 1 := by simp
  have e2 : ((W.alloc (.cells x.toArray t)).alloc (.cells y.toArray t)).heap.size = W.heap.size + 1 + 1 := by simp
  have a1 := At.new W t x
  have a2 := At.new (W.alloc (.cells x.toArray t)) t y
  have a3 := At.new ((W.alloc (.cells x.toArray t)).alloc (.cells y.toArray t)) t z
  rw [e1] at a2
  rw [e2] at a3
  have o1 := ((Only.refl (fun _ => False) (W.alloc (.cells x.toArray t))).alloc (.cells y.toArray t)).alloc (.cells z.toArray t)
  have o2 := (Only.refl (fun _ => False) ((W.alloc (.cells x.toArray t)).alloc (.cells y.toArray t))).alloc (.cells z.toArray t)
  exact ⟨a1.only o1 (fun h => h), a2.only o2 (fun h => h), a3, trivial⟩
set_option maxRecDepth 100000 in
set_option maxHeartbeats 2000000 in
theorem sanity5 (w : World) (ht : Tab w) (hm : MaxL w) :
    Calls Tryz.prog 35 #[] w fun e w' => e = .returned (.bool true) ∧ Only (fun _ => False) w w' := by
  have KA := fun W => key_any ⟨#[115]⟩ W (by decide)
  have ka := keyS_range (ByteArray.mk #[115]).data.toList
  have hpk := pubK_mem (keyS (ByteArray.mk #[115]).data.toList)
  obtain ⟨a, ha⟩ : ∃ a, a = keyS (ByteArray.mk #[115]).data.toList := ⟨_, rfl⟩
  rw [← ha] at KA ka hpk
  have hp := memB_range hpk
  have SG := fun W => sign_any a ⟨#[116]⟩ W (by unfold I64; omega) (by decide)
  have VS := ver_sign a (ByteArray.mk #[116]).data.toList
  rw [show a % 1152921504606845789 = a by omega] at VS
  have hrr := memB_range (pubK_mem (nonceS a (ByteArray.mk #[116]).data.toList))
  have hss := sigS_range a (ByteArray.mk #[116]).data.toList
  obtain ⟨p, hpe⟩ : ∃ p, p = pubK a := ⟨_, rfl⟩
  obtain ⟨r, hre⟩ : ∃ r, r = sigR a (ByteArray.mk #[116]).data.toList := ⟨_, rfl⟩
  obtain ⟨s, hse⟩ : ∃ s, s = sigS a (ByteArray.mk #[116]).data.toList := ⟨_, rfl⟩
  rw [show pubK (nonceS a (ByteArray.mk #[116]).data.toList) = r from hre.symm] at hrr
  rw [← hpe] at KA hp
  rw [← hre, ← hse] at SG
  rw [← hpe, ← hre, ← hse] at VS
  rw [← hse] at hss
  have KK := Lib.hid KA
  have SS := Lib.hid SG
  have V1 := Lib.hid (show ∀ W, Calls Tryz.prog 84 #[.int .i64 p, .string ⟨#[116]⟩, .agg #[.int .i64 r, .int .i64 s]] W fun e w' => e = .returned (.bool true) ∧ Only (fun _ => False) W w' from fun W => by
    have := verify_any p ⟨#[116]⟩ r s W (by unfold I64; omega) (by unfold I64; omega) (by unfold I64; omega) (by decide)
    rw [VS] at this; exact this)
  have V2 := Lib.hid (show ∀ W, Calls Tryz.prog 84 #[.int .i64 1, .string ⟨#[116]⟩, .agg #[.int .i64 1, .int .i64 0]] W fun e w' => e = .returned (.bool true) ∧ Only (fun _ => False) W w' from fun W => by
    have := verify_any 1 ⟨#[116]⟩ 1 0 W (by unfold I64; omega) (by unfold I64; omega) (by unfold I64; omega) (by decide)
    rw [verB_one] at this; exact this)
  have V3 := Lib.hid (show ∀ W, Calls Tryz.prog 84 #[.int .i64 0, .string ⟨#[116]⟩, .agg #[.int .i64 1, .int .i64 0]] W fun e w' => e = .returned (.bool false) ∧ Only (fun _ => False) W w' from fun W => by
    have := verify_any 0 ⟨#[116]⟩ 1 0 W (by unfold I64; omega) (by unfold I64; omega) (by unfold I64; omega) (by decide)
    rw [verB_zero] at this; exact this)
  have V4 := Lib.hid (show ∀ W, Calls Tryz.prog 84 #[.int .i64 1, .string ⟨#[116]⟩, .agg #[.int .i64 1, .int .i64 1152921504606845789]] W fun e w' => e = .returned (.bool false) ∧ Only (fun _ => False) W w' from fun W => by
    have := verify_any 1 ⟨#[116]⟩ 1 1152921504606845789 W (by unfold I64; omega) (by unfold I64; omega) (by unfold I64; omega) (by decide)
    rw [verB_high _ _ _ _ (by omega)] at this; exact this)
  have R1 := Lib.hid (show ∀ W, Only (fun _ => False) w W → Calls Tryz.prog 83 #[.string ⟨#[49, 50, 46, 51]⟩] W fun e w' => e = .returned (.tuple #[.agg #[.int .i64 12, .int .i64 3], .bool true]) ∧ Only (fun _ => False) W w' from fun W o => by
    have := read_any ⟨#[49, 50, 46, 51]⟩ ⟨#[49, 50]⟩ ⟨#[51]⟩ 12 3 W (ht.only o) (hm.only o) (by decide) (by decide) (by decide) (by unfold I64; omega) (by unfold I64; omega) cut1 par1 par3
    rw [if_pos txt1] at this; exact this)
  have R2 := Lib.hid (show ∀ W, Only (fun _ => False) w W → Calls Tryz.prog 83 #[.string ⟨#[48, 49, 50, 46, 51]⟩] W fun e w' => e = .returned (.tuple #[.agg #[.int .i64 0, .int .i64 0], .bool false]) ∧ Only (fun _ => False) W w' from fun W o => by
    have := read_any ⟨#[48, 49, 50, 46, 51]⟩ ⟨#[48, 49, 50]⟩ ⟨#[51]⟩ 12 3 W (ht.only o) (hm.only o) (by decide) (by decide) (by decide) (by unfold I64; omega) (by unfold I64; omega) cut2 par2 par3
    rw [if_neg txt2] at this; exact this)
  have TX := Lib.hid (show ∀ W, Only (fun _ => False) w W → Calls Tryz.prog 85 #[.agg #[.int .i64 12, .int .i64 (-3)]] W fun e w' => e = .returned (.string ⟨#[49, 50, 46, 45, 51]⟩) ∧ Only (fun _ => False) W w' from fun W o => by
    have := text_any 12 (-3) (by unfold I64; omega) (by unfold I64; omega) W (ht.only o)
    rw [txt3] at this; exact this)
  clear KA SG VS ha ka hpk hp hrr hss hpe hre hse ht hm
  go_enter Tryz.func35, Tryz.ntmps35
  go_wp2_with fail
  refine (KK.out _).mono ?_
  rintro e w1 ⟨rfl, o1⟩
  have O1 := Lib.hid o1
  clear o1 KK
  go_wp2_with fail
  refine (SS.out _).mono ?_
  rintro e w2 ⟨rfl, o2⟩
  have O2 := Lib.hid (O1.out.trans o2 (fun _ _ h => h))
  clear o2 O1 SS
  go_wp2_with fail
  have o2' : Only (fun _ => False) w2 (((w2.alloc (.cells [.int .i64 r, .int .i64 s].toArray 69)).alloc (.cells [.int .i64 1, .int .i64 0].toArray 69)).alloc (.cells [.int .i64 1, .int .i64 1152921504606845789].toArray 69)) := ((((Only.refl _ w2).alloc _).alloc _).alloc _)
  have A2 := Lib.hid (at3 w2 69 [.int .i64 r, .int .i64 s] [.int .i64 1, .int .i64 0] [.int .i64 1, .int .i64 1152921504606845789])
  refine (R1.out _ (O2.out.trans o2' (fun _ _ h => h))).mono ?_
  rintro e w3 ⟨rfl, o3⟩
  have A3 := Lib.hid (A2.out.only o3)
  have O3 := Lib.hid ((O2.out.trans o2' (fun _ _ h => h)).trans o3 (fun _ _ h => h))
  clear o3 o2' A2 O2 R1
  go_wp2_with fail
  have o3' := (Only.refl (fun _ => False) w3).alloc (.cells [.int .i64 12, .int .i64 3].toArray 69)
  have A3' := Lib.hid (show Ats 69 _ [(w2.heap.size, [.int .i64 r, .int .i64 s]), (w2.heap.size + 1, [.int .i64 1, .int .i64 0]), (w2.heap.size + 1 + 1, [.int .i64 1, .int .i64 1152921504606845789]), (w3.heap.size, [.int .i64 12, .int .i64 3])] from ⟨A3.out.1.only o3' (fun h => h), A3.out.2.1.only o3' (fun h => h), A3.out.2.2.1.only o3' (fun h => h), At.new w3 _ _, trivial⟩)
  refine (R2.out _ (O3.out.trans o3' (fun _ _ h => h))).mono ?_
  rintro e w4 ⟨rfl, o4⟩
  have A4 := Lib.hid (A3'.out.only o4)
  have O4 := Lib.hid ((O3.out.trans o3' (fun _ _ h => h)).trans o4 (fun _ _ h => h))
  clear o4 o3' A3 A3' O3 R2
  have o4' := (Only.refl (fun _ => False) w4).alloc (.cells [.int .i64 0, .int .i64 0].toArray 69)
  have A5 := Lib.hid (A4.out.only o4')
  have O5 := Lib.hid (O4.out.trans o4' (fun _ _ h => h))
  clear o4' A4 O4
  have c0 := A5.out.1.cell (i := 0) rfl
  have c1 := A5.out.1.cell (i := 1) rfl
  go_wp2_with fail
  refine (V1.out _).mono ?_
  rintro e w6 ⟨rfl, o⟩
  have A6 := Lib.hid (A5.out.only o)
  have O6 := Lib.hid (O5.out.trans o (fun _ _ h => h))
  clear o A5 O5 V1 c0 c1
  have c0 := A6.out.2.1.cell (i := 0) rfl
  have c1 := A6.out.2.1.cell (i := 1) rfl
  go_wp2_with fail
  refine (V2.out _).mono ?_
  rintro e w7 ⟨rfl, o⟩
  have A7 := Lib.hid (A6.out.only o)
  have O7 := Lib.hid (O6.out.trans o (fun _ _ h => h))
  clear o A6 O6 V2 c0 c1
  have c0 := A7.out.2.1.cell (i := 0) rfl
  have c1 := A7.out.2.1.cell (i := 1) rfl
  go_wp2_with fail
  refine (V3.out _).mono ?_
  rintro e w8 ⟨rfl, o⟩
  have A8 := Lib.hid (A7.out.only o)
  have O8 := Lib.hid (O7.out.trans o (fun _ _ h => h))
  clear o A7 O7 V3 c0 c1
  have c0 := A8.out.2.2.1.cell (i := 0) rfl
  have c1 := A8.out.2.2.1.cell (i := 1) rfl
  go_wp2_with fail
  refine (V4.out _).mono ?_
  rintro e w9 ⟨rfl, o⟩
  have A9 := Lib.hid (A8.out.only o)
  have O9 := Lib.hid (O8.out.trans o (fun _ _ h => h))
  clear o A8 O8 V4 c0 c1
  have c0 := A9.out.2.2.2.1.cell (i := 0) rfl
  have c1 := A9.out.2.2.2.1.cell (i := 1) rfl
  go_wp2_with fail
  refine (TX.out _ O9.out).mono ?_
  rintro e w10 ⟨rfl, o⟩
  have O10 := Lib.hid (O9.out.trans o (fun _ _ h => h))
  have A10 := Lib.hid (A9.out.only o)
  clear o A9 O9 TX c0 c1
  have c0 := A10.out.2.2.2.1.cell (i := 0) rfl
  have c1 := A10.out.2.2.2.1.cell (i := 1) rfl
  go_wp2_with fail
  go_ret
  exact ⟨rfl, O10.out⟩
end Go.Proofs.YtoekhpnapnhefaaGreatDoor
