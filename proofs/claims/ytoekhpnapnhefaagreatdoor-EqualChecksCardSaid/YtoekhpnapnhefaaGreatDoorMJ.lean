/-
  sortesref06's Element and Exponent: contracts; proofs, plain, in ints.
  Proofs of equal exponents, plain: what EqualFalse and EqualMany ask.
  sortesref06: joined, Challenge, power, side, ProveWith, Prove, Verify: contracts.
-/
import Derived.Test.YtoekhpnapnhefaaGreatDoorMF
import Derived.Test.YtoekhpnapnhefaaGreatDoorMG
import Derived.Test.YtoekhpnapnhefaaGreatDoorMH
namespace Go.Proofs.YtoekhpnapnhefaaGreatDoor
open Go.RowKit Go.Shelf
set_option linter.unusedVariables false
set_option linter.unusedSimpArgs false

theorem rexpo6_any (s : Int) (w : World) (hs : I64 s) :
    Calls Tryz.prog 29 #[.int .i64 s] w fun e w' => e = .returned (.int .i64 (s % 1152921504606845789)) ∧ w = w' := by
  obtain ⟨s1, s2⟩ := hs
  by_cases h0 : 0 ≤ s
  · go_enter Tryz.func29, Tryz.ntmps29
    go_wp2_with fail
    go_ret
    exact ⟨rfl, rfl⟩
  · obtain ⟨h1, h2, h3, h4⟩ := tmod_neg s 1152921504606845789 (by omega) (by omega)
    have H1 := Lib.hid h1
    have H2 := Lib.hid h2
    clear h1 h2
    by_cases hn : s.tmod 1152921504606845789 < 0
    · go_enter Tryz.func29, Tryz.ntmps29
      go_wp2_with fail
      go_ret
      exact ⟨ret_int (H1.out (by assumption)), rfl⟩
    · go_enter Tryz.func29, Tryz.ntmps29
      go_wp2_with fail
      go_ret
      exact ⟨ret_int (H2.out (by omega)), rfl⟩
/-- the member that a number determines -/
def elemE (n : Int) : Int := (n % 1152921504606845789 + 1) * (n % 1152921504606845789 + 1) % 2305843009213691579
theorem elemE_mem (n : Int) : memB (elemE n) = true := by
  unfold elemE
  have h0 : 0 ≤ n % 1152921504606845789 := by omega
  have h1 : n % 1152921504606845789 < 1152921504606845789 := by omega
  obtain ⟨X, hX⟩ := Int.eq_ofNat_of_zero_le (show 0 ≤ n % 1152921504606845789 + 1 by omega)
  rw [hX, show (2305843009213691579 : Int) = ((gP : Nat) : Int) from rfl]
  rw [show ((X : Int) * (X : Int) % ((gP : Nat) : Int)) = ((X * X % gP : Nat) : Int) by simp]
  refine memB_nat (square_mem fun hd => ?_)
  have h2 : 0 < X := by omega
  have h3 := Nat.le_of_dvd h2 hd
  have h4 : gP = 2305843009213691579 := rfl
  omega
set_option maxRecDepth 100000 in
theorem relem6_any (n : Int) (w : World) (hn : I64 n) :
    Calls Tryz.prog 26 #[.int .i64 n] w fun e w' => e = .returned (.int .i64 (elemE n)) ∧ w = w' := by
  have EX := Lib.hid (rexpo6_any n w hn)
  have E := Lib.hid (show elemE n = (n % 1152921504606845789 + 1) * (n % 1152921504606845789 + 1) % 2305843009213691579 from rfl)
  have hx : 0 ≤ n % 1152921504606845789 ∧ n % 1152921504606845789 < 1152921504606845789 := by omega
  generalize n % 1152921504606845789 = x at *
  have MU := Lib.hid (rmul_any (x + 1) (x + 1) 2305843009213691579 w (by omega) (by omega) (by unfold I64; omega) (by unfold I64; omega))
  have v1 : IntKind.i64.wrap (x + 1) = x + 1 := IntWalk.i64_in _ (by omega)
  have h1 : 0 ≤ x := hx.1
  have h2 : x < 1152921504606845789 := hx.2
  have h3 : x % 2305843009213691578 = x := by omega
  clear hx hn
  go_enter Tryz.func26, Tryz.ntmps26
  go_wp2_with fail
  refine (EX.out).mono ?_
  rintro e ws1 ⟨rfl, rfl⟩
  go_wp2_with fail
  refine (MU.out).mono ?_
  rintro e ws2 ⟨rfl, rfl⟩
  go_wp2_with fail
  go_ret
  exact ⟨by rw [E.out]; rfl, rfl⟩
/-! ### proofs, in ints -/
theorem pP_nat (A N : Nat) : pP (A : Int) (N : Int) = ((A ^ N % gP : Nat) : Int) := by
  unfold pP; rw [Int.toNat_natCast, show (2305843009213691579 : Int) = ((gP : Nat) : Int) from rfl, pm_nat]
theorem pP_mem {a n : Int} (h : memB a = true) (hn : 0 ≤ n) : memB (pP a n) = true := by
  obtain ⟨A, rfl, hA⟩ := (memB_iff a).1 h
  obtain ⟨N, rfl⟩ := Int.eq_ofNat_of_zero_le hn
  rw [pP_nat]
  exact memB_nat (hA.pow N)
theorem cast_mm (a b m : Nat) : ((a : Int) * (b : Int)) % (m : Int) = ((a * b % m : Nat) : Int) := by simp
theorem sideE_eq {g x k c : Int} (hg : memB g = true) (hx : 0 ≤ x) (hk : 0 ≤ k) (hc : 0 ≤ c) (hc2 : c ≤ 1152921504606845789) :
    sideE g (pP g x) c ((k + c * x % 1152921504606845789) % 1152921504606845789) = pP g k := by
  obtain ⟨G, rfl, hG⟩ := (memB_iff g).1 hg
  obtain ⟨X, rfl⟩ := Int.eq_ofNat_of_zero_le hx
  obtain ⟨K, rfl⟩ := Int.eq_ofNat_of_zero_le hk
  obtain ⟨C, rfl⟩ := Int.eq_ofNat_of_zero_le hc
  have e1 : (((K : Int) + (C : Int) * (X : Int) % 1152921504606845789) % 1152921504606845789) = (((K + C * X % gQ) % gQ : Nat) : Int) := by
    rw [Int.natCast_emod, Int.natCast_add, Int.natCast_emod, Int.natCast_mul]; rfl
  have e2 : (1152921504606845789 : Int) - (C : Int) = ((gQ - C : Nat) : Int) := by
    have : gQ = 1152921504606845789 := rfl
    omega
  unfold sideE
  rw [e1, e2, pP_nat, pP_nat, pP_nat, pP_nat, ← side_nat hG.one K X C (by have : gQ = 1152921504606845789 := rfl; omega), show (2305843009213691579 : Int) = ((gP : Nat) : Int) from rfl]
  exact cast_mm _ _ _
/-- a proof of the powers is accepted -/
theorem verE_made {g h x k : Int} (hg : memB g = true) (hh : memB h = true) (hx : 0 ≤ x) (hk : 0 ≤ k) : verE g (pP g x) h (pP h x) (provC x g h k) (provZ x g h k) = true := by
  have hc := scalE_range wEqual [g, pP g x, h, pP h x, pP g k, pP h k]
  have hz : 0 ≤ provZ x g h k ∧ provZ x g h k < 1152921504606845789 := by unfold provZ; omega
  have hcc : 0 ≤ provC x g h k ∧ provC x g h k < 1152921504606845789 := hc
  have s1 : sideE g (pP g x) (provC x g h k) (provZ x g h k) = pP g k := sideE_eq hg hx hk hcc.1 (by omega)
  have s2 : sideE h (pP h x) (provC x g h k) (provZ x g h k) = pP h k := sideE_eq hh hx hk hcc.1 (by omega)
  unfold verE
  rw [s1, s2, decide_eq_true hcc.1, decide_eq_true hcc.2, decide_eq_true hz.1, decide_eq_true hz.2]
  simp only [List.all_cons, List.all_nil, hg, hh, pP_mem hg hx, pP_mem hh hx, Bool.and_true, Bool.true_and]
  rw [beq_iff_eq]; rfl
theorem eqn_yes {g i k c : Int} (hg : memB g = true) (hi : 0 ≤ i) (hk : 0 ≤ k) (hc : 0 ≤ c) :
    pP g ((k + c * i % 1152921504606845789) % 1152921504606845789) = pP g k * pP (pP g i) c % 2305843009213691579 := by
  obtain ⟨G, rfl, hG⟩ := (memB_iff g).1 hg
  obtain ⟨X, rfl⟩ := Int.eq_ofNat_of_zero_le hi
  obtain ⟨K, rfl⟩ := Int.eq_ofNat_of_zero_le hk
  obtain ⟨C, rfl⟩ := Int.eq_ofNat_of_zero_le hc
  have e1 : (((K : Int) + (C : Int) * (X : Int) % 1152921504606845789) % 1152921504606845789) = (((K + C * X % gQ) % gQ : Nat) : Int) := by
    rw [Int.natCast_emod, Int.natCast_add, Int.natCast_emod, Int.natCast_mul]; rfl
  rw [e1, pP_nat, pP_nat, pP_nat, pP_nat, eqn_nat hG.one K X C, show (2305843009213691579 : Int) = ((gP : Nat) : Int) from rfl]
  exact (cast_mm _ _ _).symm
theorem eqn_iff {h i j k c : Int} (hh : memB h = true) (h1 : h ≠ 1) (hi : 0 ≤ i) (hi2 : i < 1152921504606845789) (hj : 0 ≤ j) (hj2 : j < 1152921504606845789) (hk : 0 ≤ k) (hc : 0 ≤ c) (hc2 : c < 1152921504606845789) (hij : i ≠ j) :
    pP h ((k + c * i % 1152921504606845789) % 1152921504606845789) = pP h k * pP (pP h j) c % 2305843009213691579 ↔ c = 0 := by
  obtain ⟨H, rfl, hH⟩ := (memB_iff h).1 hh
  obtain ⟨I, rfl⟩ := Int.eq_ofNat_of_zero_le hi
  obtain ⟨J, rfl⟩ := Int.eq_ofNat_of_zero_le hj
  obtain ⟨K, rfl⟩ := Int.eq_ofNat_of_zero_le hk
  obtain ⟨C, rfl⟩ := Int.eq_ofNat_of_zero_le hc
  have q : gQ = 1152921504606845789 := rfl
  have e1 : (((K : Int) + (C : Int) * (I : Int) % 1152921504606845789) % 1152921504606845789) = (((K + C * I % gQ) % gQ : Nat) : Int) := by
    rw [Int.natCast_emod, Int.natCast_add, Int.natCast_emod, Int.natCast_mul]; rfl
  have key := eqn_only hH (fun e => h1 (by rw [e]; rfl)) K I J C (by omega) (by omega) (by omega) (fun e => hij (by rw [e]))
  rw [e1, pP_nat, pP_nat, pP_nat, pP_nat, show (2305843009213691579 : Int) = ((gP : Nat) : Int) from rfl]
  rw [cast_mm]
  constructor
  · intro h2
    have := key.1 (Int.ofNat.inj h2)
    omega
  · intro h2
    have h3 : C = 0 := by omega
    rw [key.2 h3]
end Go.Proofs.YtoekhpnapnhefaaGreatDoor

namespace Go.Proofs.YtoekhpnapnhefaaGreatDoor
open Go.RowKit Go.Shelf
set_option linter.unusedVariables false
set_option linter.unusedSimpArgs false

/-- numbers in decimal with slashes between them -/
def joinT : List Int → List UInt8
  | [] => []
  | a :: l => Lib.itoa a ++ l.flatMap fun n => 47 :: Lib.itoa n
theorem joinT_snoc {l : List Int} (h : l ≠ []) (x : Int) : joinT (l ++ [x]) = joinT l ++ 47 :: Lib.itoa x := by
  match l, h with
  | a :: l, _ => simp [joinT]
theorem joinT_one (x : Int) : joinT [x] = Lib.itoa x := by simp [joinT]
theorem joinS_joinT (word : List UInt8) (a : Int) (l : List Int) : word ++ 47 :: joinT (a :: l) = joinS word (a :: l) := by simp [joinS, joinT]
theorem prov_range {x g h k : Int} : (0 ≤ provC x g h k ∧ provC x g h k < 1152921504606845789) ∧ (0 ≤ provZ x g h k ∧ provZ x g h k < 1152921504606845789) := by
  refine ⟨scalE_range _ _, ?_⟩
  unfold provZ
  omega
/-- a proof for i, shown for a number with the exponent j -/
theorem verE_false {g h i j k : Int} (hg : memB g = true) (hh : memB h = true) (hi : 0 ≤ i) (hj : 0 ≤ j) (hk : 0 ≤ k) :
    verE g (pP g i) h (pP h j) (provC i g h k) (provZ i g h k) =
      (scalE wEqual [g, pP g i, h, pP h j, sideE g (pP g i) (provC i g h k) (provZ i g h k), sideE h (pP h j) (provC i g h k) (provZ i g h k)] ==
       scalE wEqual [g, pP g i, h, pP h i, sideE g (pP g i) (provC i g h k) (provZ i g h k), sideE h (pP h i) (provC i g h k) (provZ i g h k)]) := by
  obtain ⟨hc, hz⟩ := @prov_range i g h k
  have s1 : sideE g (pP g i) (provC i g h k) (provZ i g h k) = pP g k := sideE_eq hg hi hk hc.1 (by omega)
  have s2 : sideE h (pP h i) (provC i g h k) (provZ i g h k) = pP h k := sideE_eq hh hi hk hc.1 (by omega)
  have s3 : scalE wEqual [g, pP g i, h, pP h i, pP g k, pP h k] = provC i g h k := rfl
  rw [s2, s1, s3]
  unfold verE
  rw [s1, decide_eq_true hc.1, decide_eq_true hc.2, decide_eq_true hz.1, decide_eq_true hz.2]
  simp only [List.all_cons, List.all_nil, hg, hh, pP_mem hg hi, pP_mem hh hj, Bool.and_true, Bool.true_and]
  generalize scalE wEqual _ = a
  generalize provC i g h k = b
  by_cases e : a = b
  · subst e; rfl
  · rw [beq_false_of_ne e, beq_false_of_ne (Ne.symm e)]
end Go.Proofs.YtoekhpnapnhefaaGreatDoor

namespace Go.Proofs.YtoekhpnapnhefaaGreatDoor
open Go.RowKit Go.Shelf
set_option linter.unusedVariables false
set_option linter.unusedSimpArgs false

theorem i64_nil : ∀ y ∈ ([] : List Int), I64 y := fun y h => by cases h
theorem i64_cons {x : Int} {l : List Int} (h : I64 x) (t : ∀ y ∈ l, I64 y) : ∀ y ∈ x :: l, I64 y := fun y hy => by
  rcases List.mem_cons.1 hy with h1 | h1
  · rw [h1]; exact h
  · exact t y h1
theorem i64_p {x : Int} (h : 0 ≤ x ∧ x < 2305843009213691579) : I64 x := by unfold I64; omega
set_option maxRecDepth 100000 in
set_option maxHeartbeats 1000000 in
theorem rjoined_any (l : List Int) (p : Option Addr) (n c : Nat) (w : World) (hn : l.length = n) (hn2 : n ≤ 1000) (hp : IntsAt w p l) (hl : ∀ x ∈ l, I64 x) :
    Calls Tryz.prog 73 #[.slice p n c] w fun e w' => e = .returned (.string ⟨(joinT l).toArray⟩) ∧ Only (fun _ => False) w w' := by
  have HP := Lib.hid hp
  have HL := Lib.hid hl
  have HN := Lib.hid hn
  clear hp hl hn
  go_enter Tryz.func73, Tryz.ntmps73
  go_wp2_with fail
  go_loopw [3, 4] (fun tv iv wr => ∃ (k : Nat) (t : ByteArray), k ≤ n ∧ iv = .int .i64 k ∧ tv = .string t ∧ t.size ≤ 22 * k ∧ Hid (t.data.toList = joinT (l.take k)) ∧ Hid (Only (fun _ => False) w wr)) (fun _ iv _ => n - (intOf iv).toNat)
  case atStart => exact ⟨0, ⟨#[]⟩, by omega, rfl, rfl, by decide, Lib.hid (by simp [joinT]), Lib.hid (Only.refl _ _)⟩
  case round =>
    obtain ⟨k, t, hk, rfl, rfl, hts, hT, hO⟩ := hrel
    by_cases hlt : k < n
    · obtain ⟨g, o, rfl, hc⟩ := HP.out (by rw [HN.out]; omega)
      have c0 := hO.out.cell (hc k _ (get_getD (by rw [HN.out]; exact hlt))) (fun h => h)
      have hx := HL.out _ (getD_mem (k := k) (by rw [HN.out]; exact hlt))
      have TS := Lib.hid (take_snocI l k (by rw [HN.out]; exact hlt))
      have TL := Lib.hid (show (l.take k).length = k by rw [List.length_take, HN.out]; omega)
      generalize l.getD k 0 = x at *
      clear hc
      obtain ⟨s, hs⟩ : ∃ s, s = ByteArray.mk (Lib.itoa x).toArray := ⟨_, rfl⟩
      have hsz : s.size ≤ 21 := by rw [hs]; exact Lib.itoa_length_le x hx.1 hx.2
      have DA := Lib.hid (show ∀ W, Calls Tryz.prog 112 #[.int .i64 x] W fun e w' => e = .returned (.string s) ∧ Only (fun _ => False) W w' from fun W => by rw [hs]; exact rdec6_any x W hx)
      have i1 : (k : Int) < (n : Int) := by omega
      by_cases h0 : 0 < k
      · have i2 : (0 : Int) < (k : Int) := by omega
        have n1 : ¬ (9223372036854775807 < t.size + 1) := by omega
        have n2 : ¬ (9223372036854775807 < t.size + 1 + s.size) := by omega
        have NT : Hid ((t ++ (⟨#[47]⟩ : ByteArray) ++ s).data.toList = joinT (l.take (k + 1))) := Lib.hid (by
          rw [TS.out, joinT_snoc (fun h => by have := TL.out; rw [h] at this; simp at this; omega), ByteArray.data_append, Array.toList_append, ByteArray.data_append, Array.toList_append, hT.out, hs]; simp)
        have NZ := Lib.hid (show (t ++ (⟨#[47]⟩ : ByteArray) ++ s).size ≤ 22 * (k + 1) by rw [ByteArray.size_append, ByteArray.size_append]; show t.size + 1 + s.size ≤ _; omega)
        clear hs hx h0
        go_wp2_with fail
        refine (DA.out _).mono ?_
        rintro e w1 ⟨rfl, o1⟩
        have O1 := Lib.hid (hO.out.trans o1 (fun _ _ h => h))
        clear o1 c0
        go_wp2_with fail
        go_roundw
        case rel => exact ⟨k + 1, _, by omega, by go_num, rfl, NZ.out, NT, O1⟩
        case measure => simp [intOf]; omega
      · obtain rfl : k = 0 := by omega
        have n2 : ¬ (9223372036854775807 < t.size + s.size) := by omega
        have NT : Hid ((t ++ s).data.toList = joinT (l.take (0 + 1))) := Lib.hid (by
          rw [TS.out, List.take_zero, List.nil_append, joinT_one, ByteArray.data_append, Array.toList_append, hT.out, hs]; simp [joinT])
        have NZ := Lib.hid (show (t ++ s).size ≤ 22 * (0 + 1) by rw [ByteArray.size_append]; omega)
        clear hs hx h0
        rw [Nat.add_zero] at c0
        go_wp2_with fail
        refine (DA.out _).mono ?_
        rintro e w1 ⟨rfl, o1⟩
        have O1 := Lib.hid (hO.out.trans o1 (fun _ _ h => h))
        clear o1 c0
        go_wp2_with fail
        go_roundw
        case rel => exact ⟨0 + 1, _, by omega, by go_num, rfl, NZ.out, NT, O1⟩
        case measure => simp [intOf]; omega
    · obtain rfl : k = n := by omega
      have hT' := hT.out
      rw [← HN.out, List.take_length] at hT'
      have E := Lib.hid (show ByteArray.mk (joinT l).toArray = t by rw [← hT'])
      clear hT hT'
      go_wp2_with fail
      go_ret
      exact ⟨by rw [E.out]; rfl, hO.out⟩
theorem joinT_len (l : List Int) (hl : ∀ x ∈ l, I64 x) : (joinT l).length ≤ 22 * l.length := by
  have hf : ∀ l : List Int, (∀ x ∈ l, I64 x) → (l.flatMap fun n => 47 :: Lib.itoa n).length ≤ 22 * l.length := by
    intro l
    induction l with
    | nil => intro _; simp
    | cons a l ih =>
      intro h
      have h1 := h a (by simp)
      have h2 : (Lib.itoa a).length ≤ 21 := by simpa using Lib.itoa_length_le a h1.1 h1.2
      have := ih fun x hx => h x (by simp [hx])
      rw [List.flatMap_cons, List.length_append, List.length_cons, List.length_cons]
      omega
  match l, hl with
  | [], _ => simp [joinT]
  | a :: l, hl =>
    have h1 := hl a (by simp)
    have h2 : (Lib.itoa a).length ≤ 21 := by simpa using Lib.itoa_length_le a h1.1 h1.2
    have := hf l fun x hx => hl x (by simp [hx])
    rw [joinT, List.length_append, List.length_cons]
    omega
set_option maxRecDepth 100000 in
theorem rchal6_any (a : Int) (l : List Int) (p : Option Addr) (n c : Nat) (w : World) (hn : (a :: l).length = n) (hn2 : n ≤ 1000) (hp : IntsAt w p (a :: l)) (hl : ∀ x ∈ a :: l, I64 x) :
    Calls Tryz.prog 34 #[.slice p n c] w fun e w' => e = .returned (.int .i64 (scalE wEqual (a :: l))) ∧ Only (fun _ => False) w w' := by
  have JA := Lib.hid (rjoined_any (a :: l) p n c w hn hn2 hp hl)
  have hz := joinT_len (a :: l) hl
  rw [hn] at hz
  obtain ⟨t, ht⟩ : ∃ t, t = ByteArray.mk (joinT (a :: l)).toArray := ⟨_, rfl⟩
  rw [← ht] at JA
  have htz : t.size ≤ 22000 := by rw [ht]; show (joinT (a :: l)).toArray.size ≤ _; rw [List.size_toArray]; omega
  obtain ⟨u, hu⟩ : ∃ u, u = (⟨#[101, 113, 117, 97, 108, 47]⟩ : ByteArray) ++ t := ⟨_, rfl⟩
  have HU := Lib.hid hu.symm
  have SC := Lib.hid (fun W => rscalar_any u W (by rw [hu, ByteArray.size_append]; show 6 + t.size ≤ _; omega))
  rw [show scal u.data.toList = scalE wEqual (a :: l) by unfold scalE; rw [hu, ht, ByteArray.data_append, Array.toList_append, ← joinS_joinT]; rfl] at SC
  generalize scalE wEqual (a :: l) = v at *
  have n1 : ¬ (9223372036854775807 < 6 + t.size) := by omega
  clear ht hu hz hp hl hn
  go_enter Tryz.func34, Tryz.ntmps34
  go_wp2_with fail
  refine JA.out.mono ?_
  rintro e w1 ⟨rfl, oo⟩
  have O := Lib.hid oo
  clear oo
  go_wp2_with fail
  rw [HU.out]
  refine (SC.out _).mono ?_
  rintro e wc1 ⟨rfl, oo⟩
  replace O := Lib.hid (O.out.trans oo (fun _ _ h => h))
  clear oo
  go_wp2_with fail
  go_ret
  exact ⟨rfl, O.out⟩
set_option maxRecDepth 100000 in
theorem rpower6_any (a n : Int) (w : World) (ha : I64 a) (hn : 0 ≤ n) (hn2 : n ≤ 9223372036854775807) :
    Calls Tryz.prog 74 #[.int .i64 a, .int .i64 n] w fun e w' => e = .returned (.int .i64 (pP a n)) ∧ w = w' := by
  have PA := Lib.hid (rpow_any a n 2305843009213691579 w (by omega) (by omega) ha hn hn2)
  rw [show pm a n.toNat 2305843009213691579 = pP a n from rfl] at PA
  go_enter Tryz.func74, Tryz.ntmps74
  go_wp2_with fail
  refine (PA.out).mono ?_
  rintro e ws2 ⟨rfl, rfl⟩
  go_wp2_with fail
  go_ret
  exact ⟨rfl, rfl⟩
set_option maxRecDepth 100000 in
set_option maxHeartbeats 1000000 in
theorem rprovew_any (secret g h k : Int) (w : World) (hs : I64 secret) (hg : I64 g) (hh : I64 h) (hk : 0 ≤ k ∧ k < 1152921504606845789) :
    Calls Tryz.prog 30 #[.int .i64 secret, .int .i64 g, .int .i64 h, .int .i64 k] w fun e w' => e = .returned (.agg #[.int .i64 (provC (secret % 1152921504606845789) g h k), .int .i64 (provZ (secret % 1152921504606845789) g h k)]) ∧ Only (fun _ => False) w w' := by
  have EX := Lib.hid (fun W => rexpo6_any secret W hs)
  have hx : 0 ≤ secret % 1152921504606845789 ∧ secret % 1152921504606845789 < 1152921504606845789 := by omega
  generalize secret % 1152921504606845789 = x at *
  have ix : I64 x := by unfold I64; omega
  have P1 := Lib.hid (fun W => rpower6_any g x W hg hx.1 (by omega))
  have P2 := Lib.hid (fun W => rpower6_any h x W hh hx.1 (by omega))
  have P3 := Lib.hid (fun W => rpower6_any g k W hg hk.1 (by omega))
  have P4 := Lib.hid (fun W => rpower6_any h k W hh hk.1 (by omega))
  have r1 := pP_range g x
  have r2 := pP_range h x
  have r3 := pP_range g k
  have r4 := pP_range h k
  have EC : provC x g h k = scalE wEqual [g, pP g x, h, pP h x, pP g k, pP h k] := rfl
  have EZ : provZ x g h k = (k + provC x g h k * x % 1152921504606845789) % 1152921504606845789 := rfl
  generalize pP g x = a at *
  generalize pP h x = b at *
  generalize pP g k = r at *
  generalize pP h k = s at *
  have hC := scalE_range wEqual [g, a, h, b, r, s]
  have SE := Lib.hid (fun W (o : Only (fun _ => False) w W) => rchal6_any g [a, h, b, r, s] (some ⟨W.heap.size, 0, none⟩) 6 6 (W.alloc (.cells (ints [g, a, h, b, r, s]).toArray 3)) rfl (by omega) (ints_at' (At.new W _ _)) (i64_cons hg (i64_cons (i64_p r1) (i64_cons hh (i64_cons (i64_p r2) (i64_cons (i64_p r3) (i64_cons (i64_p r4) i64_nil)))))))
  rw [EC] at EZ
  generalize scalE wEqual [g, a, h, b, r, s] = c at *
  have MU := Lib.hid (fun W => rmul_any c x 1152921504606845789 W (by omega) (by omega) (by unfold I64; omega) ix)
  obtain ⟨y, hy⟩ : ∃ y, y = c * x % 1152921504606845789 := ⟨_, rfl⟩
  have hyr : 0 ≤ y ∧ y < 1152921504606845789 := by omega
  rw [← hy] at MU EZ
  have AD := Lib.hid (fun W => radd_any k y 1152921504606845789 W (by omega) (by omega) (by unfold I64; omega) (by unfold I64; omega))
  rw [← EZ] at AD
  generalize provZ x g h k = z at AD ⊢
  generalize provC x g h k = c' at EC ⊢
  subst EC
  clear hx ix hk r1 r2 r3 r4 hC hy hyr EZ hs hg hh
  go_enter Tryz.func30, Tryz.ntmps30
  go_wp2_with (with_reducible refine wpl_alloc_all (o := ⟨some 8, _, _, _, _, _⟩) rfl _ rfl _ (zeroP _) ?_; intro w1 h1 o1 s1; have A := Lib.hid h1; have O := Lib.hid o1; clear h1 o1 s1)
  refine (EX.out _).mono ?_
  rintro e ws3 ⟨rfl, rfl⟩
  go_wp2_with fail
  refine (P1.out _).mono ?_
  rintro e ws4 ⟨rfl, rfl⟩
  go_wp2_with fail
  refine (P2.out _).mono ?_
  rintro e ws5 ⟨rfl, rfl⟩
  go_wp2_with fail
  refine (P3.out _).mono ?_
  rintro e ws6 ⟨rfl, rfl⟩
  go_wp2_with fail
  refine (P4.out _).mono ?_
  rintro e ws7 ⟨rfl, rfl⟩
  go_wp2_with fail
  refine (SE.out _ O.out).mono ?_
  rintro e w2 ⟨rfl, oo⟩
  replace O := Lib.hid ((O.out.alloc _).trans oo (fun _ _ h => h))
  replace A := Lib.hid ((A.out.alloc _).only oo (fun h => h))
  clear oo
  go_wp2_with fail
  refine (MU.out _).mono ?_
  rintro e ws8 ⟨rfl, rfl⟩
  go_wp2_with fail
  have c0 := A.out.cell (i := 0) rfl
  have c1 := A.out.cell (i := 1) rfl
  have f0 := A.out.frozen 0
  have f1 := A.out.frozen 1
  refine (AD.out _).mono ?_
  rintro e ws9 ⟨rfl, rfl⟩
  go_wp2_with fail
  have hE : At _ w.heap.size 26 [.int .i64 c', .int .i64 z] := (A.out.put 0 (.int .i64 c')).put 1 (.int .i64 z)
  refine bodyPost_ret (results_all rfl _ w.heap.size rfl 26 [.int .i64 c', .int .i64 z] _ hE Tryz.underlying26 rfl infoProof) rfl ⟨rfl, ?_⟩
  exact (O.out.put (p := ⟨w.heap.size, 0, none⟩) (fun h => absurd h (Nat.lt_irrefl _)) _).put (p := ⟨w.heap.size, 1, none⟩) (fun h => absurd h (Nat.lt_irrefl _)) _
set_option maxRecDepth 100000 in
set_option maxHeartbeats 1000000 in
theorem rprove6_any (secret g h : Int) (w : World) (hs : I64 secret) (hg : I64 g) (hh : I64 h) (hm : (memB g && memB h) = true) :
    Calls Tryz.prog 28 #[.int .i64 secret, .int .i64 g, .int .i64 h] w fun e w' => e = .returned (.agg #[.int .i64 (provC (secret % 1152921504606845789) g h (provK (secret % 1152921504606845789) g h)), .int .i64 (provZ (secret % 1152921504606845789) g h (provK (secret % 1152921504606845789) g h))]) ∧ Only (fun _ => False) w w' := by
  rw [Bool.and_eq_true] at hm
  have M1 := Lib.hid (fun W => rmember_any g W hg)
  have M2 := Lib.hid (fun W => rmember_any h W hh)
  rw [hm.1] at M1
  rw [hm.2] at M2
  have EX := Lib.hid (fun W => rexpo6_any secret W hs)
  have hx : 0 ≤ secret % 1152921504606845789 ∧ secret % 1152921504606845789 < 1152921504606845789 := by omega
  have hk := scalE_range wNonce [secret % 1152921504606845789, g, h]
  rw [show scalE wNonce [secret % 1152921504606845789, g, h] = provK (secret % 1152921504606845789) g h from rfl] at hk
  have PW := Lib.hid (fun W => rprovew_any secret g h (provK (secret % 1152921504606845789) g h) W hs hg hh hk)
  generalize provC (secret % 1152921504606845789) g h (provK (secret % 1152921504606845789) g h) = c at *
  generalize provZ (secret % 1152921504606845789) g h (provK (secret % 1152921504606845789) g h) = z at *
  have HK := Lib.hid (show provK (secret % 1152921504606845789) g h = scal ([110, 111, 110, 99, 101] ++ 47 :: joinT [secret % 1152921504606845789, g, h]) by rw [joinS_joinT]; rfl)
  generalize provK (secret % 1152921504606845789) g h = k at *
  generalize secret % 1152921504606845789 = x at *
  have ix : I64 x := by unfold I64; omega
  have hl : ∀ y ∈ [x, g, h], I64 y := i64_cons ix (i64_cons hg (i64_cons hh i64_nil))
  have JA := Lib.hid (fun W (o : Only (fun _ => False) w W) => rjoined_any [x, g, h] (some ⟨W.heap.size, 0, none⟩) 3 3 (W.alloc (.cells (ints [x, g, h]).toArray 3)) rfl (by omega) (ints_at' (At.new W _ _)) hl)
  have hz := joinT_len [x, g, h] hl
  obtain ⟨t, ht⟩ : ∃ t, t = ByteArray.mk (joinT [x, g, h]).toArray := ⟨_, rfl⟩
  rw [← ht] at JA
  have htz : t.size ≤ 66 := by rw [ht]; show (joinT [x, g, h]).toArray.size ≤ _; rw [List.size_toArray]; exact hz
  obtain ⟨u, hu⟩ : ∃ u, u = (⟨#[110, 111, 110, 99, 101, 47]⟩ : ByteArray) ++ t := ⟨_, rfl⟩
  have HU := Lib.hid hu.symm
  have SC := Lib.hid (fun W => rscalar_any u W (by rw [hu, ByteArray.size_append]; show 6 + t.size ≤ _; omega))
  rw [show scal u.data.toList = k by rw [HK.out, hu, ht, ByteArray.data_append, Array.toList_append]; rfl] at SC
  have n1 : ¬ (9223372036854775807 < 6 + t.size) := by omega
  clear hs hg hh hm hx hk HK ix hl hz ht htz hu
  go_enter Tryz.func28, Tryz.ntmps28
  go_wp2_with (with_reducible refine wpl_alloc_all (o := ⟨some 6, _, _, _, _, _⟩) rfl _ rfl _ (zeroP _) ?_; intro w1 h1 o1 s1; have A := Lib.hid h1; have O := Lib.hid o1; clear h1 o1 s1)
  refine (M1.out _).mono ?_
  rintro e ws10 ⟨rfl, rfl⟩
  go_wp2_with fail
  refine (M2.out _).mono ?_
  rintro e ws11 ⟨rfl, rfl⟩
  go_wp2_with fail
  refine (EX.out _).mono ?_
  rintro e ws12 ⟨rfl, rfl⟩
  go_wp2_with fail
  refine (JA.out _ O.out).mono ?_
  rintro e w2 ⟨rfl, oo⟩
  replace O := Lib.hid ((O.out.alloc _).trans oo (fun _ _ h => h))
  replace A := Lib.hid ((A.out.alloc _).only oo (fun h => h))
  clear oo
  go_wp2_with fail
  rw [HU.out]
  refine (SC.out _).mono ?_
  rintro e wc13 ⟨rfl, oo⟩
  replace O := Lib.hid (O.out.trans oo (fun _ _ h => h))
  replace A := Lib.hid (A.out.only oo (fun h => h))
  clear oo
  go_wp2_with fail
  refine (PW.out _).mono ?_
  rintro e w4 ⟨rfl, oo⟩
  replace O := Lib.hid (O.out.trans oo (fun _ _ h => h))
  replace A := Lib.hid (A.out.only oo (fun h => h))
  clear oo
  have c0 := A.out.cell (i := 0) rfl
  have c1 := A.out.cell (i := 1) rfl
  have f0 := A.out.frozen 0
  have f1 := A.out.frozen 1
  go_wp2_with fail
  have hE : At _ w.heap.size 26 [.int .i64 c, .int .i64 z] := (A.out.put 0 (.int .i64 c)).put 1 (.int .i64 z)
  refine bodyPost_ret (results_all rfl _ w.heap.size rfl 26 [.int .i64 c, .int .i64 z] _ hE Tryz.underlying26 rfl infoProof) rfl ⟨rfl, ?_⟩
  exact (O.out.put (p := ⟨w.heap.size, 0, none⟩) (fun h => absurd h (Nat.lt_irrefl _)) _).put (p := ⟨w.heap.size, 1, none⟩) (fun h => absurd h (Nat.lt_irrefl _)) _
set_option maxRecDepth 100000 in
theorem rprove6_no (secret g h : Int) (w : World) (hg : I64 g) (hh : I64 h) (hm : (memB g && memB h) = false) :
    Calls Tryz.prog 28 #[.int .i64 secret, .int .i64 g, .int .i64 h] w fun e w' => e = .returned (.agg #[.int .i64 0, .int .i64 0]) ∧ Only (fun _ => False) w w' := by
  have M1 := Lib.hid (fun W => rmember_any g W hg)
  have M2 := Lib.hid (fun W => rmember_any h W hh)
  have A := Lib.hid (At.new w 26 [.int .i64 0, .int .i64 0])
  have O := Lib.hid ((Only.refl (fun _ => False) w).alloc (.cells [.int .i64 0, .int .i64 0].toArray 26))
  have c0 := A.out.cell (i := 0) rfl
  have c1 := A.out.cell (i := 1) rfl
  have f0 := A.out.frozen 0
  have f1 := A.out.frozen 1
  cases h1 : memB g
  · rw [h1] at M1
    obtain ⟨q, hq⟩ : ∃ q, memB h = q := ⟨_, rfl⟩
    rw [hq] at M2
    clear hg hh hm h1 hq
    go_enter Tryz.func28, Tryz.ntmps28
    go_wp2_with fail
    refine (M1.out _).mono ?_
    rintro e ws14 ⟨rfl, rfl⟩
    go_wp2_with fail
    refine (M2.out _).mono ?_
    rintro e ws15 ⟨rfl, rfl⟩
    go_wp2_with fail
    refine bodyPost_ret (results_all rfl _ w.heap.size rfl 26 [.int .i64 0, .int .i64 0] _ A.out Tryz.underlying26 rfl infoProof) rfl ⟨rfl, ?_⟩
    exact O.out
  · rw [h1, Bool.true_and] at hm
    rw [h1] at M1
    rw [hm] at M2
    clear hg hh hm h1
    go_enter Tryz.func28, Tryz.ntmps28
    go_wp2_with fail
    refine (M1.out _).mono ?_
    rintro e ws16 ⟨rfl, rfl⟩
    go_wp2_with fail
    refine (M2.out _).mono ?_
    rintro e ws17 ⟨rfl, rfl⟩
    go_wp2_with fail
    refine bodyPost_ret (results_all rfl _ w.heap.size rfl 26 [.int .i64 0, .int .i64 0] _ A.out Tryz.underlying26 rfl infoProof) rfl ⟨rfl, ?_⟩
    exact O.out
set_option maxRecDepth 100000 in
theorem rside6_any (base x c z : Int) (w : World) (hb : I64 base) (hx : I64 x) (hc : 0 ≤ c ∧ c < 1152921504606845789) (hz : 0 ≤ z ∧ z < 1152921504606845789) :
    Calls Tryz.prog 61 #[.int .i64 base, .int .i64 x, .agg #[.int .i64 c, .int .i64 z]] w fun e w' => e = .returned (.int .i64 (sideE base x c z)) ∧ Only (fun _ => False) w w' := by
  have PA := Lib.hid (fun W => rpower6_any base z W hb hz.1 (by omega))
  have PB := Lib.hid (fun W => rpower6_any x (1152921504606845789 - c) W hx (by omega) (by omega))
  have ra := pP_range base z
  have rb := pP_range x (1152921504606845789 - c)
  have E := Lib.hid (show sideE base x c z = pP base z * pP x (1152921504606845789 - c) % 2305843009213691579 from rfl)
  generalize pP base z = a at *
  generalize pP x (1152921504606845789 - c) = b at *
  have MU := Lib.hid (fun W => rmul_any a b 2305843009213691579 W (by omega) (by omega) (by unfold I64; omega) (by unfold I64; omega))
  generalize a * b % 2305843009213691579 = d at *
  have n1 : (0 : Int) ≤ c := hc.1
  have n2 : c < 1152921504606845789 := hc.2
  have v1 : IntKind.i64.wrap (1152921504606845789 - c) = 1152921504606845789 - c := IntWalk.i64_in _ (by omega)
  have A := Lib.hid (At.new w 26 [.int .i64 c, .int .i64 z])
  have O := Lib.hid ((Only.refl (fun _ => False) w).alloc (.cells [.int .i64 c, .int .i64 z].toArray 26))
  clear hb hx hz ra rb hc
  go_enter Tryz.func61, Tryz.ntmps61
  go_wp2_with fail
  obtain ⟨w1, hw1⟩ : ∃ w1, w1 = w.alloc (.cells #[.int .i64 c, .int .i64 z] 26) := ⟨_, rfl⟩
  rw [← hw1]
  have A1 : Hid (At w1 w.heap.size 26 [.int .i64 c, .int .i64 z]) := Lib.hid (by rw [hw1]; exact A.out)
  have O1 : Hid (Only (fun _ => False) w w1) := Lib.hid (by rw [hw1]; exact O.out)
  clear hw1 A O
  obtain ⟨X, F, FM⟩ := fam w1
  have NE := FM.ne
  have c0 := FM.cell (A1.out.cell (i := 0) rfl)
  have c1 := FM.cell (A1.out.cell (i := 1) rfl)
  refine FM.region (by kernel_rfl) (by kernel_rfl) ?_
  repeat (first | go_big_quiet_step ((first | (go_at_call 74; with_reducible exact FM.call_same (PA.out _)) | (go_at_call 74; with_reducible exact FM.call_same (PB.out _)) | (go_at_call 19; with_reducible exact FM.call_same (MU.out _)))) | quiet_step (fail))
  refine wpQuiet_nil ?_
  intro x1
  go_wp2_with fail
  go_ret
  exact ⟨by rw [E.out]; rfl, O1.out.trans (FM.own x1) (fun _ _ h => h)⟩
end Go.Proofs.YtoekhpnapnhefaaGreatDoor
