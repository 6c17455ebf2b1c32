/-
  Package equal: scalar, members, exponent, power, inside: contracts.
  Package equal: Prove, Verify: contracts.
  Package equal: Prove of numbers that are no members, Verify: contracts.
  strconv.Atoi at numerals; package equal's Text, Read (of texts that hold numbers): contracts.
  Package equal's Read (of texts that hold numbers): contract.
  sorteslaw06.sanity, the reference's Element and Exponent: contracts.
-/
import Derived.Test.YtoekhpnapnhefaaGreatDoorMD
import Derived.Test.YtoekhpnapnhefaaGreatDoorMA
import Derived.Test.YtoekhpnapnhefaaGreatDoorShelg
namespace Go.Proofs.YtoekhpnapnhefaaGreatDoor
open Go.RowKit Go.Shelf
set_option linter.unusedVariables false
set_option linter.unusedSimpArgs false

/-- a word and numbers -/
def joinS (word : List UInt8) (l : List Int) : List UInt8 := word ++ l.flatMap fun n => 47 :: Lib.itoa n
theorem joinS_snoc (word : List UInt8) (l : List Int) (n : Int) : joinS word (l ++ [n]) = joinS word l ++ 47 :: Lib.itoa n := by simp [joinS]
def scalE (word : List UInt8) (l : List Int) : Int := scal (joinS word l)
/-- numbers that lie somewhere -/
def IntsAt (w : World) (p : Option Addr) (l : List Int) : Prop := 0 < l.length → ∃ g o, p = some ⟨g, o, none⟩ ∧ ∀ k v, l[k]? = some v → w.cell? ⟨g, o + k, none⟩ = some (.int .i64 v)
theorem IntsAt.only {w w' : World} {p : Option Addr} {l : List Int} (h : IntsAt w p l) (o : Only (fun _ => False) w w') : IntsAt w' p l := fun hl => by
  obtain ⟨g, f, h1, h2⟩ := h hl
  exact ⟨g, f, h1, fun k v hv => o.cell (h2 k v hv) (fun h => h)⟩
def ints (l : List Int) : List Value := l.map (Value.int .i64)
theorem ints_at {w : World} {g : Nat} {t : TypeId} {l : List Int} {sp : List Value} (h : At w g t (ints l ++ sp)) : IntsAt w (some ⟨g, 0, none⟩) l := fun _ =>
  ⟨g, 0, rfl, fun k v hv => by rw [Nat.zero_add]; exact h.cell (by
    have hl := (List.getElem?_eq_some_iff.1 hv).1
    rw [List.getElem?_append_left (by simpa [ints] using hl)]; simp [ints, hv])⟩
theorem ints_at' {w : World} {g : Nat} {t : TypeId} {l : List Int} (h : At w g t (ints l)) : IntsAt w (some ⟨g, 0, none⟩) l := ints_at (sp := []) (by rw [List.append_nil]; exact h)
theorem getD_mem {l : List Int} {k : Nat} (h : k < l.length) : l.getD k 0 ∈ l := by
  rw [List.getD_eq_getElem?_getD, List.getElem?_eq_getElem h]; exact List.getElem_mem h
theorem get_getD {l : List Int} {k : Nat} (h : k < l.length) : l[k]? = some (l.getD k 0) := by simp [List.getD_eq_getElem?_getD, h]
theorem take_snocI (l : List Int) (k : Nat) (h : k < l.length) : l.take (k + 1) = l.take k ++ [l.getD k 0] := by
  rw [List.take_succ_eq_append_getElem h]; simp [List.getD_eq_getElem?_getD, h]

set_option maxRecDepth 100000 in
set_option maxHeartbeats 1000000 in
theorem escalar_any (word : ByteArray) (l : List Int) (p : Option Addr) (n c : Nat) (w : World) (ht : Tab w) (hn : l.length = n) (hn2 : n ≤ 1000) (hp : IntsAt w p l) (hl : ∀ x ∈ l, I64 x) (hw : word.size ≤ 1000) :
    Calls Tryz.prog 70 #[.string word, .slice p n c] w fun e w' => e = .returned (.int .i64 (scalE word.data.toList l)) ∧ Only (fun _ => False) w w' := by
  have TB := Lib.hid ht
  have HP := Lib.hid hp
  have HL := Lib.hid hl
  have HN := Lib.hid hn
  clear ht hp hl hn
  go_enter Tryz.func70, Tryz.ntmps70
  go_wp2_with fail
  go_loopw [0, 9] (fun tv iv wr => ∃ (k : Nat) (t : ByteArray), k ≤ n ∧ iv = .int .i64 k ∧ tv = .string t ∧ t.size ≤ 1000 + 22 * k ∧ Hid (t.data.toList = joinS word.data.toList (l.take k)) ∧ Hid (Only (fun _ => False) w wr)) (fun _ iv _ => n - (intOf iv).toNat)
  case atStart => exact ⟨0, word, by omega, rfl, rfl, by omega, Lib.hid (by simp [joinS]), Lib.hid (Only.refl _ _)⟩
  case round =>
    obtain ⟨k, t, hk, rfl, rfl, hts, hT, hO⟩ := hrel
    by_cases hlt : k < n
    · obtain ⟨g, o, rfl, hc⟩ := HP.out (by rw [HN.out]; omega)
      have c0 := hO.out.cell (hc k _ (get_getD (by rw [HN.out]; exact hlt))) (fun h => h)
      have hx := HL.out _ (getD_mem (k := k) (by rw [HN.out]; exact hlt))
      have TS := Lib.hid (take_snocI l k (by rw [HN.out]; exact hlt))
      generalize l.getD k 0 = x at *
      clear hc
      obtain ⟨s, hs⟩ : ∃ s, s = ByteArray.mk (Lib.itoa x).toArray := ⟨_, rfl⟩
      have hsz : s.size ≤ 21 := by rw [hs]; exact Lib.itoa_length_le x hx.1 hx.2
      have IA := Lib.hid (show ∀ W, Only (fun _ => False) w W → Calls Tryz.prog 92 #[.int .i64 x] W fun e w' => e = .returned (.string s) ∧ Only (fun _ => False) W w' from fun W o => by rw [hs]; exact itoa_any x hx w W TB.out o)
      have n1 : ¬ (9223372036854775807 < 1 + s.size) := by omega
      have n2 : ¬ (9223372036854775807 < t.size + (1 + s.size)) := by omega
      have NT : Hid ((t ++ ((⟨#[47]⟩ : ByteArray) ++ s)).data.toList = joinS word.data.toList (l.take (k + 1))) := Lib.hid (by
        rw [TS.out, joinS_snoc, ByteArray.data_append, Array.toList_append, hT.out, ByteArray.data_append, hs]; simp)
      have NZ : (t ++ ((⟨#[47]⟩ : ByteArray) ++ s)).size ≤ 1000 + 22 * (k + 1) := by rw [ByteArray.size_append, ByteArray.size_append]; show t.size + (1 + s.size) ≤ _; omega
      have NZZ := Lib.hid NZ
      have i1 : (k : Int) < (n : Int) := by omega
      clear hs hx NZ
      go_wp2_with fail
      refine (IA.out _ hO.out).mono ?_
      rintro e w1 ⟨rfl, o1⟩
      have O1 := Lib.hid (hO.out.trans o1 (fun _ _ h => h))
      clear o1 c0
      go_wp2_with fail
      go_roundw
      case rel => exact ⟨k + 1, _, by omega, by go_num, rfl, NZZ.out, NT, O1⟩
      case measure => simp [intOf]; omega
    · obtain rfl : k = n := by omega
      have hT' := hT.out
      rw [← HN.out, List.take_length] at hT'
      have SC := Lib.hid (scalar_any t wr (by omega))
      rw [hT'] at SC
      have E := Lib.hid (show scalE word.data.toList l = scal (joinS word.data.toList l) from rfl)
      generalize scal (joinS word.data.toList l) = v at SC E
      clear hT hT'
      go_wp2_with fail
      refine SC.out.mono ?_
      rintro e w1 ⟨rfl, o1⟩
      have O1 := Lib.hid (hO.out.trans o1 (fun _ _ h => h))
      clear o1
      go_wp2_with fail
      go_ret
      exact ⟨by rw [E.out]; rfl, O1.out⟩
set_option maxRecDepth 100000 in
theorem emembers_any (l : List Int) (p : Option Addr) (n c : Nat) (w : World) (hn : l.length = n) (hn2 : n ≤ 1000) (hp : IntsAt w p l) (hl : ∀ x ∈ l, I64 x) :
    Calls Tryz.prog 68 #[.slice p n c] w fun e w' => e = .returned (.bool (l.all memB)) ∧ Only (fun _ => False) w w' := by
  have HP := Lib.hid hp
  have HL := Lib.hid hl
  have HN := Lib.hid hn
  clear hp hl hn
  go_enter Tryz.func68, Tryz.ntmps68
  go_wp2_with fail
  go_loopw [7] (fun iv wr => ∃ k : Nat, k ≤ n ∧ iv = .int .i64 k ∧ Hid ((l.take k).all memB = true) ∧ Hid (Only (fun _ => False) w wr)) (fun iv _ => n - (intOf iv).toNat)
  case atStart => exact ⟨0, by omega, rfl, Lib.hid (by simp), Lib.hid (Only.refl _ _)⟩
  case round =>
    obtain ⟨k, hk, rfl, hA, hO⟩ := hrel
    by_cases hlt : k < n
    · obtain ⟨g, o, rfl, hc⟩ := HP.out (by rw [HN.out]; omega)
      have c0 := hO.out.cell (hc k _ (get_getD (by rw [HN.out]; exact hlt))) (fun h => h)
      have hx := HL.out _ (getD_mem (k := k) (by rw [HN.out]; exact hlt))
      have hmem := getD_mem (l := l) (k := k) (by rw [HN.out]; exact hlt)
      have TS := Lib.hid (take_snocI l k (by rw [HN.out]; exact hlt))
      have MB := Lib.hid (fun W => member_any (l.getD k 0) W hx)
      have i1 : (k : Int) < (n : Int) := by omega
      cases hb : memB (l.getD k 0) with
      | true =>
        rw [hb] at MB
        have NX : Hid ((l.take (k + 1)).all memB = true) := Lib.hid (by rw [TS.out, List.all_append, hA.out, List.all_cons, List.all_nil, hb]; rfl)
        generalize l.getD k 0 = x at *
        clear hb hmem hc
        go_wp2_with fail
        refine (MB.out _).mono ?_
        rintro e w1 ⟨rfl, o1⟩
        have O1 := Lib.hid (hO.out.trans o1 (fun _ _ h => h))
        clear o1 c0
        go_wp2_with fail
        go_roundw
        case rel => exact ⟨k + 1, by omega, by go_num, NX, O1⟩
        case measure => simp [intOf]; omega
      | false =>
        rw [hb] at MB
        have NX : Hid (l.all memB = false) := Lib.hid (by
          rw [List.all_eq_false]; exact ⟨_, hmem, by rw [hb]; simp⟩)
        generalize l.getD k 0 = x at *
        clear hb hmem hc
        go_wp2_with fail
        refine (MB.out _).mono ?_
        rintro e w1 ⟨rfl, o1⟩
        have O1 := Lib.hid (hO.out.trans o1 (fun _ _ h => h))
        clear o1 c0
        go_wp2_with fail
        go_ret
        exact ⟨by rw [NX.out]; rfl, O1.out⟩
    · obtain rfl : k = n := by omega
      have hA' := hA.out
      rw [← HN.out, List.take_length] at hA'
      have HA := Lib.hid hA'
      clear hA hA'
      go_wp2_with fail
      go_ret
      exact ⟨by rw [HA.out]; rfl, hO.out⟩
theorem eexpo_any (s : Int) (w : World) (hs : I64 s) :
    Calls Tryz.prog 69 #[.int .i64 s] w fun e w' => e = .returned (.int .i64 (s % 1152921504606845789)) ∧ w = w' := by
  have AD := Lib.hid (add_any s 0 1152921504606845789 w (by omega) (by omega) hs (by unfold I64; omega))
  rw [Int.add_zero] at AD
  generalize s % 1152921504606845789 = x at *
  go_enter Tryz.func69, Tryz.ntmps69
  go_wp2_with fail
  refine (AD.out).mono ?_
  rintro e ws1 ⟨rfl, rfl⟩
  go_wp2_with fail
  go_ret
  exact ⟨rfl, rfl⟩
theorem epower_any (a n : Int) (w : World) (ha : I64 a) (hn : 0 ≤ n) (hn2 : n ≤ 9223372036854775807) :
    Calls Tryz.prog 71 #[.int .i64 a, .int .i64 n] w fun e w' => e = .returned (.int .i64 (pm a n.toNat 2305843009213691579)) ∧ Only (fun _ => False) w w' := by
  have PO := Lib.hid (pow_any a n 2305843009213691579 w (by omega) (by omega) ha hn hn2)
  generalize pm a n.toNat 2305843009213691579 = x at *
  clear ha hn hn2
  go_enter Tryz.func71, Tryz.ntmps71
  go_wp2_with fail
  refine PO.out.mono ?_
  rintro e w1 ⟨rfl, o1⟩
  have O1 := Lib.hid o1
  clear o1
  go_wp2_with fail
  go_ret
  exact ⟨rfl, O1.out⟩
theorem einside_any (n : Int) (w : World) :
    Calls Tryz.prog 76 #[.int .i64 n] w fun e w' => e = .returned (.bool (decide (0 ≤ n) && decide (n < 1152921504606845789))) ∧ w = w' := by
  by_cases h1 : 0 ≤ n
  · rw [decide_eq_true h1, Bool.true_and]
    by_cases h2 : n < 1152921504606845789
    · rw [decide_eq_true h2]
      go_enter Tryz.func76, Tryz.ntmps76
      go_wp2_with fail
      go_ret
      exact ⟨rfl, rfl⟩
    · rw [decide_eq_false h2]
      go_enter Tryz.func76, Tryz.ntmps76
      go_wp2_with fail
      go_ret
      exact ⟨rfl, rfl⟩
  · rw [decide_eq_false h1, Bool.false_and]
    go_enter Tryz.func76, Tryz.ntmps76
    go_wp2_with fail
    go_ret
    exact ⟨rfl, rfl⟩
end Go.Proofs.YtoekhpnapnhefaaGreatDoor

namespace Go.Proofs.YtoekhpnapnhefaaGreatDoor
open Go.RowKit Go.Shelf
set_option linter.unusedVariables false
set_option linter.unusedSimpArgs false

abbrev wNonce : List UInt8 := [110, 111, 110, 99, 101]
abbrev wEqual : List UInt8 := [101, 113, 117, 97, 108]
/-- powers in the group -/
def pP (a n : Int) : Int := pm a n.toNat 2305843009213691579
theorem pP_range (a n : Int) : 0 ≤ pP a n ∧ pP a n < 2305843009213691579 := pm_range _ _ _ (by omega)
theorem scalE_range (w : List UInt8) (l : List Int) : 0 ≤ scalE w l ∧ scalE w l < 1152921504606845789 := scal_range _
/-- a side of a proof -/
def sideE (base x c z : Int) : Int := pP base z * pP x (1152921504606845789 - c) % 2305843009213691579
/-- a proof with a given k -/
def provC (x g h k : Int) : Int := scalE wEqual [g, pP g x, h, pP h x, pP g k, pP h k]
def provZ (x g h k : Int) : Int := (k + provC x g h k * x % 1152921504606845789) % 1152921504606845789
def provK (x g h : Int) : Int := scalE wNonce [x, g, h]
/-- is a proof accepted -/
def verE (g a h b c z : Int) : Bool :=
  [g, a, h, b].all memB && ((decide (0 ≤ c) && decide (c < 1152921504606845789)) && ((decide (0 ≤ z) && decide (z < 1152921504606845789)) && (c == scalE wEqual [g, a, h, b, sideE g a c z, sideE h b c z])))

theorem infoProof : (Tryz.prog.info? 26).map (·.size) = some 2 := by kernel_rfl
theorem zeroP (w : World) : (zeroValue 26).run Tryz.prog w = .ok (.agg [.int .i64 0, .int .i64 0].toArray) w := by kernel_rfl
theorem i64_of {x m : Int} (h : 0 ≤ x ∧ x < m) (hm : m ≤ 9223372036854775807) : I64 x := by unfold I64; omega
set_option maxRecDepth 100000 in
theorem eside_any (base x c z : Int) (g : Nat) (w : World) (hb : I64 base) (hx : I64 x) (hc : 0 ≤ c ∧ c < 1152921504606845789) (hz : 0 ≤ z ∧ z < 1152921504606845789) (hA : At w g 26 [.int .i64 c, .int .i64 z]) :
    Calls Tryz.prog 77 #[.int .i64 base, .int .i64 x, .pointer (some ⟨g, 0, none⟩)] w fun e w' => e = .returned (.int .i64 (sideE base x c z)) ∧ Only (fun _ => False) w w' := by
  have PA := Lib.hid (fun W => epower_any base z W hb hz.1 (by omega))
  have PB := Lib.hid (fun W => epower_any x (1152921504606845789 - c) W hx (by omega) (by omega))
  have ra := pP_range base z
  have rb := pP_range x (1152921504606845789 - c)
  rw [show pm base z.toNat 2305843009213691579 = pP base z from rfl] at PA
  rw [show pm x (1152921504606845789 - c).toNat 2305843009213691579 = pP x (1152921504606845789 - c) from rfl] at PB
  have E := Lib.hid (show sideE base x c z = pP base z * pP x (1152921504606845789 - c) % 2305843009213691579 from rfl)
  generalize pP base z = a at *
  generalize pP x (1152921504606845789 - c) = b at *
  have MU := Lib.hid (fun W => mul_only a b 2305843009213691579 W (by omega) (by omega) (by unfold I64; omega) (by unfold I64; omega))
  generalize a * b % 2305843009213691579 = d at *
  have n1 : (0 : Int) ≤ c := hc.1
  have n2 : c < 1152921504606845789 := hc.2
  have v1 : IntKind.i64.wrap (1152921504606845789 - c) = 1152921504606845789 - c := IntWalk.i64_in _ (by omega)
  clear hb hx hz ra rb hc
  obtain ⟨X, F, FM⟩ := fam w
  have NE := FM.ne
  have c0 := FM.cell (hA.cell (i := 0) rfl)
  have c1 := FM.cell (hA.cell (i := 1) rfl)
  go_enter Tryz.func77, Tryz.ntmps77
  go_wp2_with fail
  refine FM.region (by kernel_rfl) (by kernel_rfl) ?_
  repeat (first | go_big_quiet_step ((first | (go_at_call_of 71 (Value.int IntKind.i64 base); with_reducible exact FM.call (PA.out _)) | (go_at_call 71; with_reducible exact FM.call (PB.out _)) | (go_at_call 71; with_reducible exact FM.call (PA.out _)) | (go_at_call 33; with_reducible exact FM.call (MU.out _)))) | quiet_step (fail))
  refine wpQuiet_nil ?_
  intro x1
  go_wp2_with fail
  go_ret
  exact ⟨by rw [E.out]; rfl, FM.own x1⟩
set_option maxRecDepth 100000 in
set_option maxHeartbeats 1000000 in
theorem eprove_any (secret g h : Int) (w : World) (ht : Tab w) (hs : I64 secret) (hg : memB g = true) (hh : memB h = true) :
    Calls Tryz.prog 27 #[.int .i64 secret, .int .i64 g, .int .i64 h] w fun e w' => e = .returned (.agg #[.int .i64 (provC (secret % 1152921504606845789) g h (provK (secret % 1152921504606845789) g h)), .int .i64 (provZ (secret % 1152921504606845789) g h (provK (secret % 1152921504606845789) g h))]) ∧ Only (fun _ => False) w w' := by
  have hgr := memB_range hg
  have hhr := memB_range hh
  have ig : I64 g := by unfold I64; omega
  have ih : I64 h := by unfold I64; omega
  have EX := Lib.hid (fun W => eexpo_any secret W hs)
  have hx : 0 ≤ secret % 1152921504606845789 ∧ secret % 1152921504606845789 < 1152921504606845789 := by omega
  generalize secret % 1152921504606845789 = x at *
  have ix : I64 x := by unfold I64; omega
  have hk := scalE_range wNonce [x, g, h]
  have SN := Lib.hid (fun W (o : Only (fun _ => False) w W) => escalar_any ⟨#[110, 111, 110, 99, 101]⟩ [x, g, h] (some ⟨W.heap.size, 0, none⟩) 3 3 (W.alloc (.cells (ints [x, g, h]).toArray 3)) (ht.only (o.alloc _)) rfl (by omega) (ints_at' (At.new W _ _)) (by intro y hy; simp at hy; rcases hy with rfl | rfl | rfl <;> assumption) (by decide))
  rw [show scalE (ByteArray.mk #[110, 111, 110, 99, 101]).data.toList [x, g, h] = provK x g h from rfl] at SN
  rw [show scalE wNonce [x, g, h] = provK x g h from rfl] at hk
  have MB := Lib.hid (fun W => emembers_any [g, h] (some ⟨W.heap.size, 0, none⟩) 2 2 (W.alloc (.cells (ints [g, h]).toArray 3)) rfl (by omega) (ints_at' (At.new W _ _)) (by intro y hy; simp at hy; rcases hy with rfl | rfl <;> assumption))
  rw [show [g, h].all memB = true by simp [hg, hh]] at MB
  obtain ⟨k, ek⟩ : ∃ k, k = provK x g h := ⟨_, rfl⟩
  rw [← ek] at SN hk
  have P1 := Lib.hid (fun W => epower_any g x W ig hx.1 (by omega))
  have P2 := Lib.hid (fun W => epower_any h x W ih hx.1 (by omega))
  have P3 := Lib.hid (fun W => epower_any g k W ig hk.1 (by omega))
  have P4 := Lib.hid (fun W => epower_any h k W ih hk.1 (by omega))
  have r1 := pP_range g x
  have r2 := pP_range h x
  have r3 := pP_range g k
  have r4 := pP_range h k
  have EC : provC x g h k = scalE wEqual [g, pP g x, h, pP h x, pP g k, pP h k] := rfl
  have EZ : provZ x g h k = (k + provC x g h k * x % 1152921504606845789) % 1152921504606845789 := rfl
  rw [show pm g x.toNat 2305843009213691579 = pP g x from rfl] at P1
  rw [show pm h x.toNat 2305843009213691579 = pP h x from rfl] at P2
  rw [show pm g k.toNat 2305843009213691579 = pP g k from rfl] at P3
  rw [show pm h k.toNat 2305843009213691579 = pP h k from rfl] at P4
  generalize pP g x = a at *
  generalize pP h x = b at *
  generalize pP g k = r at *
  generalize pP h k = s at *
  have hC := scalE_range wEqual [g, a, h, b, r, s]
  have SE := Lib.hid (fun W (o : Only (fun _ => False) w W) => escalar_any ⟨#[101, 113, 117, 97, 108]⟩ [g, a, h, b, r, s] (some ⟨W.heap.size, 0, none⟩) 6 6 (W.alloc (.cells (ints [g, a, h, b, r, s]).toArray 3)) (ht.only (o.alloc _)) rfl (by omega) (ints_at' (At.new W _ _)) (by intro y hy; unfold I64; simp at hy; rcases hy with rfl | rfl | rfl | rfl | rfl | rfl <;> omega) (by decide))
  rw [show scalE (ByteArray.mk #[101, 113, 117, 97, 108]).data.toList [g, a, h, b, r, s] = scalE wEqual [g, a, h, b, r, s] from rfl] at SE
  rw [EC] at EZ
  generalize scalE wEqual [g, a, h, b, r, s] = c at *
  have MU := Lib.hid (fun W => mul_only c x 1152921504606845789 W (by omega) (by omega) (by unfold I64; omega) ix)
  obtain ⟨y, ey⟩ : ∃ y, y = c * x % 1152921504606845789 := ⟨_, rfl⟩
  have hy : 0 ≤ y ∧ y < 1152921504606845789 := by omega
  rw [← ey] at MU EZ
  have AD := Lib.hid (fun W => add_any k y 1152921504606845789 W (by omega) (by omega) (by unfold I64; omega) (by unfold I64; omega))
  rw [← EZ] at AD
  rw [← ek]
  generalize provZ x g h k = z at AD ⊢
  generalize provC x g h k = c' at EC ⊢
  subst EC
  clear hgr hhr ig ih hx ix hk ek r1 r2 r3 r4 hC ey hy EZ ht hs hg hh
  go_enter Tryz.func27, Tryz.ntmps27
  go_wp2_with (with_reducible refine wpl_alloc_all (o := ⟨some 6, _, _, _, _, _⟩) rfl _ rfl _ (zeroP _) ?_; intro w1 h1 o1 s1; have A := Lib.hid h1; have O := Lib.hid o1; clear h1 o1 s1)
  refine (MB.out _).mono ?_
  rintro e w1 ⟨rfl, oo⟩
  replace O := Lib.hid ((O.out.alloc _).trans oo (fun _ _ h => h))
  replace A := Lib.hid ((A.out.alloc _).only oo (fun h => h))
  clear oo
  go_wp2_with fail
  refine (EX.out _).mono ?_
  rintro e ws1 ⟨rfl, rfl⟩
  go_wp2_with fail
  refine (SN.out _ O.out).mono ?_
  rintro e w2 ⟨rfl, oo⟩
  replace O := Lib.hid ((O.out.alloc _).trans oo (fun _ _ h => h))
  replace A := Lib.hid ((A.out.alloc _).only oo (fun h => h))
  clear oo
  go_wp2_with fail
  refine (P1.out _).mono ?_
  rintro e wc2 ⟨rfl, oo⟩
  replace O := Lib.hid (O.out.trans oo (fun _ _ h => h))
  replace A := Lib.hid (A.out.only oo (fun h => h))
  clear oo
  go_wp2_with fail
  refine (P2.out _).mono ?_
  rintro e wc3 ⟨rfl, oo⟩
  replace O := Lib.hid (O.out.trans oo (fun _ _ h => h))
  replace A := Lib.hid (A.out.only oo (fun h => h))
  clear oo
  go_wp2_with fail
  refine (P3.out _).mono ?_
  rintro e wc4 ⟨rfl, oo⟩
  replace O := Lib.hid (O.out.trans oo (fun _ _ h => h))
  replace A := Lib.hid (A.out.only oo (fun h => h))
  clear oo
  go_wp2_with fail
  refine (P4.out _).mono ?_
  rintro e wc5 ⟨rfl, oo⟩
  replace O := Lib.hid (O.out.trans oo (fun _ _ h => h))
  replace A := Lib.hid (A.out.only oo (fun h => h))
  clear oo
  go_wp2_with fail
  refine (SE.out _ O.out).mono ?_
  rintro e w3 ⟨rfl, oo⟩
  replace O := Lib.hid ((O.out.alloc _).trans oo (fun _ _ h => h))
  replace A := Lib.hid ((A.out.alloc _).only oo (fun h => h))
  clear oo
  go_wp2_with fail
  refine (MU.out _).mono ?_
  rintro e w4 ⟨rfl, oo⟩
  replace O := Lib.hid (O.out.trans oo (fun _ _ h => h))
  replace A := Lib.hid (A.out.only oo (fun h => h))
  clear oo
  have c0 := A.out.cell (i := 0) rfl
  have c1 := A.out.cell (i := 1) rfl
  have f0 := A.out.frozen 0
  have f1 := A.out.frozen 1
  go_wp2_with fail
  refine (AD.out _).mono ?_
  rintro e ws6 ⟨rfl, rfl⟩
  go_wp2_with fail
  have hE : At _ w.heap.size 26 [.int .i64 c', .int .i64 z] := (A.out.put 0 (.int .i64 c')).put 1 (.int .i64 z)
  refine bodyPost_ret (results_all rfl _ w.heap.size rfl 26 [.int .i64 c', .int .i64 z] _ hE Tryz.underlying26 rfl infoProof) rfl ⟨rfl, ?_⟩
  exact (O.out.put (p := ⟨w.heap.size, 0, none⟩) (fun h => absurd h (Nat.lt_irrefl _)) _).put (p := ⟨w.heap.size, 1, none⟩) (fun h => absurd h (Nat.lt_irrefl _)) _
end Go.Proofs.YtoekhpnapnhefaaGreatDoor

namespace Go.Proofs.YtoekhpnapnhefaaGreatDoor
open Go.RowKit Go.Shelf
set_option linter.unusedVariables false
set_option linter.unusedSimpArgs false

set_option maxRecDepth 100000 in
theorem eprove_no (secret g h : Int) (w : World) (hg : I64 g) (hh : I64 h) (hno : (memB g && memB h) = false) :
    Calls Tryz.prog 27 #[.int .i64 secret, .int .i64 g, .int .i64 h] w fun e w' => e = .returned (.agg #[.int .i64 0, .int .i64 0]) ∧ Only (fun _ => False) w w' := by
  have MB := Lib.hid (fun W => emembers_any [g, h] (some ⟨W.heap.size, 0, none⟩) 2 2 (W.alloc (.cells (ints [g, h]).toArray 3)) rfl (by omega) (ints_at' (At.new W _ _)) (by intro y hy; simp at hy; rcases hy with rfl | rfl <;> assumption))
  rw [show [g, h].all memB = false by simpa using hno] at MB
  clear hg hh hno
  go_enter Tryz.func27, Tryz.ntmps27
  go_wp2_with (with_reducible refine wpl_alloc_all (o := ⟨some 6, _, _, _, _, _⟩) rfl _ rfl _ (zeroP _) ?_; intro w1 h1 o1 s1; have A := Lib.hid h1; have O := Lib.hid o1; clear h1 o1 s1)
  refine (MB.out _).mono ?_
  rintro e w1 ⟨rfl, oo⟩
  replace O := Lib.hid ((O.out.alloc _).trans oo (fun _ _ h => h))
  replace A := Lib.hid ((A.out.alloc _).only oo (fun h => h))
  clear oo
  have c0 := A.out.cell (i := 0) rfl
  have c1 := A.out.cell (i := 1) rfl
  have f0 := A.out.frozen 0
  have f1 := A.out.frozen 1
  go_wp2_with fail
  have hE : At _ w.heap.size 26 [.int .i64 0, .int .i64 0] := (A.out.put 0 (.int .i64 0)).put 1 (.int .i64 0)
  refine bodyPost_ret (results_all rfl _ w.heap.size rfl 26 [.int .i64 0, .int .i64 0] _ hE Tryz.underlying26 rfl infoProof) rfl ⟨rfl, ?_⟩
  exact (O.out.put (p := ⟨w.heap.size, 0, none⟩) (fun h => absurd h (Nat.lt_irrefl _)) _).put (p := ⟨w.heap.size, 1, none⟩) (fun h => absurd h (Nat.lt_irrefl _)) _
theorem mkP {w W : World} {g : Nat} {c z : Int} (hA : At W g 26 [.int .i64 c, .int .i64 z]) (o : Only (fun _ => False) w W) : W.cell? ⟨g, 0, none⟩ = some (.int .i64 c) ∧ W.cell? ⟨g, 1, none⟩ = some (.int .i64 z) ∧ Hid (At W g 26 [.int .i64 c, .int .i64 z] ∧ Only (fun _ => False) w W) :=
  ⟨hA.cell (i := 0) rfl, hA.cell (i := 1) rfl, Lib.hid ⟨hA, o⟩⟩
theorem keepP {w X W : World} {g : Nat} {c z : Int} (h : X.cell? ⟨g, 0, none⟩ = some (.int .i64 c) ∧ X.cell? ⟨g, 1, none⟩ = some (.int .i64 z) ∧ Hid (At X g 26 [.int .i64 c, .int .i64 z] ∧ Only (fun _ => False) w X)) (o : Only (fun _ => False) X W) :
    W.cell? ⟨g, 0, none⟩ = some (.int .i64 c) ∧ W.cell? ⟨g, 1, none⟩ = some (.int .i64 z) ∧ Hid (At W g 26 [.int .i64 c, .int .i64 z] ∧ Only (fun _ => False) w W) :=
  mkP (h.2.2.out.1.only o (fun h => h)) (h.2.2.out.2.trans o (fun _ _ h => h))
theorem getPA {w W : World} {g : Nat} {c z : Int} (h : W.cell? ⟨g, 0, none⟩ = some (.int .i64 c) ∧ W.cell? ⟨g, 1, none⟩ = some (.int .i64 z) ∧ Hid (At W g 26 [.int .i64 c, .int .i64 z] ∧ Only (fun _ => False) w W)) : At W g 26 [.int .i64 c, .int .i64 z] := h.2.2.out.1
theorem getPO {w W : World} {g : Nat} {c z : Int} (h : W.cell? ⟨g, 0, none⟩ = some (.int .i64 c) ∧ W.cell? ⟨g, 1, none⟩ = some (.int .i64 z) ∧ Hid (At W g 26 [.int .i64 c, .int .i64 z] ∧ Only (fun _ => False) w W)) : Only (fun _ => False) w W := h.2.2.out.2
theorem boxP (w : World) (c z : Int) : ∃ w1, w1 = w.alloc (.cells #[.int .i64 c, .int .i64 z] 26) ∧ Hid (At w1 w.heap.size 26 [.int .i64 c, .int .i64 z]) ∧ Hid (Only (fun _ => False) w w1) ∧ Hid (w1.heap.size = w.heap.size + 1) :=
  ⟨_, rfl, Lib.hid (At.new w _ _), Lib.hid ((Only.refl _ w).alloc _), Lib.hid (by simp)⟩
set_option maxRecDepth 100000 in
set_option maxHeartbeats 1000000 in
theorem everify_any (g a h b c z : Int) (w : World) (ht : Tab w) (hg : I64 g) (ha : I64 a) (hh : I64 h) (hb : I64 b) (hc : I64 c) (hz : I64 z) :
    Calls Tryz.prog 31 #[.int .i64 g, .int .i64 a, .int .i64 h, .int .i64 b, .agg #[.int .i64 c, .int .i64 z]] w fun e w' => e = .returned (.bool (verE g a h b c z)) ∧ Only (fun _ => False) w w' := by
  have MB := Lib.hid (fun W p (hp : IntsAt W p [g, a, h, b]) => emembers_any [g, a, h, b] p 4 4 W rfl (by omega) hp (by intro y hy; simp at hy; rcases hy with rfl | rfl | rfl | rfl <;> assumption))
  have I1 := Lib.hid (fun W => einside_any c W)
  have I2 := Lib.hid (fun W => einside_any z W)
  have V := Lib.hid (show verE g a h b c z = ([g, a, h, b].all memB && ((decide (0 ≤ c) && decide (c < 1152921504606845789)) && ((decide (0 ≤ z) && decide (z < 1152921504606845789)) && (c == scalE wEqual [g, a, h, b, sideE g a c z, sideE h b c z])))) from rfl)
  have A := Lib.hid (At.new w 26 [.int .i64 c, .int .i64 z])
  have O := Lib.hid ((Only.refl (fun _ => False) w).alloc (.cells [.int .i64 c, .int .i64 z].toArray 26))
  have NI := Lib.hid (At.new (w.alloc (.cells #[.int .i64 c, .int .i64 z] 26)) 3 (ints [g, a, h, b]))
  rw [show (w.alloc (.cells #[.int .i64 c, .int .i64 z] 26)).heap.size = w.heap.size + 1 by simp] at NI
  cases hall : [g, a, h, b].all memB with
  | false =>
    rw [hall] at MB
    rw [hall, Bool.false_and] at V
    clear hall hg ha hh hb hc hz ht
    go_enter Tryz.func31, Tryz.ntmps31
    go_wp2_with fail
    refine (MB.out _ _ (ints_at' NI.out)).mono ?_
    rintro e w1 ⟨rfl, oo⟩
    replace O := Lib.hid ((O.out.alloc _).trans oo (fun _ _ h => h))
    clear oo
    go_wp2_with fail
    go_ret
    exact ⟨by rw [V.out]; rfl, O.out⟩
  | true =>
    have hm := hall
    simp only [List.all_cons, List.all_nil, Bool.and_true, Bool.and_eq_true] at hm
    rw [hall] at MB
    rw [hall, Bool.true_and] at V
    cases hic : (decide (0 ≤ c) && decide (c < 1152921504606845789)) with
    | false =>
      rw [hic] at I1
      rw [hic, Bool.false_and] at V
      clear hall hg ha hh hb hc hz ht hic hm
      go_enter Tryz.func31, Tryz.ntmps31
      go_wp2_with fail
      refine (MB.out _ _ (ints_at' NI.out)).mono ?_
      rintro e w1 ⟨rfl, oo⟩
      replace O := Lib.hid ((O.out.alloc _).trans oo (fun _ _ h => h))
      replace A := Lib.hid ((A.out.alloc _).only oo (fun h => h))
      clear oo
      have c0 := A.out.cell (i := 0) rfl
      have c1 := A.out.cell (i := 1) rfl
      go_wp2_with fail
      refine (I1.out _).mono ?_
      rintro e ws1 ⟨rfl, rfl⟩
      go_wp2_with fail
      go_ret
      exact ⟨by rw [V.out]; rfl, O.out⟩
    | true =>
      rw [hic] at I1
      rw [hic, Bool.true_and] at V
      cases hiz : (decide (0 ≤ z) && decide (z < 1152921504606845789)) with
      | false =>
        rw [hiz] at I2
        rw [hiz, Bool.false_and] at V
        clear hall hg ha hh hb hc hz ht hic hiz hm
        go_enter Tryz.func31, Tryz.ntmps31
        go_wp2_with fail
        refine (MB.out _ _ (ints_at' NI.out)).mono ?_
        rintro e w1 ⟨rfl, oo⟩
        replace O := Lib.hid ((O.out.alloc _).trans oo (fun _ _ h => h))
        replace A := Lib.hid ((A.out.alloc _).only oo (fun h => h))
        clear oo
        have c0 := A.out.cell (i := 0) rfl
        have c1 := A.out.cell (i := 1) rfl
        go_wp2_with fail
        refine (I1.out _).mono ?_
        rintro e ws2 ⟨rfl, rfl⟩
        go_wp2_with fail
        refine (I2.out _).mono ?_
        rintro e ws3 ⟨rfl, rfl⟩
        go_wp2_with fail
        go_ret
        exact ⟨by rw [V.out]; rfl, O.out⟩
      | true =>
        rw [hiz] at I2
        rw [hiz, Bool.true_and] at V
        simp only [Bool.and_eq_true, decide_eq_true_eq] at hic hiz
        have S1 := Lib.hid (fun W (hA : At W w.heap.size 26 [.int .i64 c, .int .i64 z]) => eside_any g a c z w.heap.size W hg ha hic hiz hA)
        have S2 := Lib.hid (fun W (hA : At W w.heap.size 26 [.int .i64 c, .int .i64 z]) => eside_any h b c z w.heap.size W hh hb hic hiz hA)
        have r1 : 0 ≤ sideE g a c z ∧ sideE g a c z < 2305843009213691579 := by unfold sideE; omega
        have r2 : 0 ≤ sideE h b c z ∧ sideE h b c z < 2305843009213691579 := by unfold sideE; omega
        generalize sideE g a c z = s at *
        generalize sideE h b c z = t at *
        have hs := i64_of r1 (by omega)
        have hti := i64_of r2 (by omega)
        have SE := Lib.hid (fun W p (o : Only (fun _ => False) w W) (hp : IntsAt W p [g, a, h, b, s, t]) => escalar_any ⟨#[101, 113, 117, 97, 108]⟩ [g, a, h, b, s, t] p 6 6 W (ht.only o) rfl (by omega) hp (by intro y hy; simp at hy; rcases hy with rfl | rfl | rfl | rfl | rfl | rfl <;> assumption) (by decide))
        rw [show scalE (ByteArray.mk #[101, 113, 117, 97, 108]).data.toList [g, a, h, b, s, t] = scalE wEqual [g, a, h, b, s, t] from rfl] at SE
        generalize scalE wEqual [g, a, h, b, s, t] = v at *
        clear hall hg ha hh hb hc hz ht hic hiz hm r1 r2 hs hti
        go_enter Tryz.func31, Tryz.ntmps31
        go_wp2_with fail
        refine (MB.out _ _ (ints_at' NI.out)).mono ?_
        rintro e w1 ⟨rfl, oo⟩
        replace O := Lib.hid ((O.out.alloc _).trans oo (fun _ _ h => h))
        replace A := Lib.hid ((A.out.alloc _).only oo (fun h => h))
        clear oo
        have c0 := A.out.cell (i := 0) rfl
        have c1 := A.out.cell (i := 1) rfl
        go_wp2_with fail
        refine (I1.out _).mono ?_
        rintro e ws4 ⟨rfl, rfl⟩
        go_wp2_with fail
        refine (I2.out _).mono ?_
        rintro e ws5 ⟨rfl, rfl⟩
        go_wp2_with fail
        clear c0 c1
        go_region_held3 (fun W => W.cell? ⟨w.heap.size, 0, none⟩ = some (.int .i64 c) ∧ W.cell? ⟨w.heap.size, 1, none⟩ = some (.int .i64 z) ∧ Hid (At W w.heap.size 26 [.int .i64 c, .int .i64 z] ∧ Only (fun _ => False) w W)) ((first | exact keepP (by assumption) (by assumption) | exact keepP (by assumption) ((Only.refl _ _).alloc _) | exact mkP (A.out.drewN 1) (O.out.drewN 1))) (first | (go_at_call_of 77 (Value.int IntKind.i64 a); refine (S1.out _ (getPA (w := w) (by assumption))).mono ?_; rintro e' w4 ⟨rfl, o4⟩) | (go_at_call_of 77 (Value.int IntKind.i64 b); refine (S2.out _ (getPA (w := w) (by assumption))).mono ?_; rintro e' w5 ⟨rfl, o5⟩) | (go_at_call 70; refine (SE.out _ _ (getPO (g := w.heap.size) (c := c) (z := z) (by assumption)) (ints_at' (At.new _ _ _))).mono ?_; rintro e' w6 ⟨rfl, o6⟩))
        all_goals go_wp2_with fail
        all_goals go_ret
        all_goals exact ⟨by rw [V.out]; rfl, getPO (g := w.heap.size) (c := c) (z := z) (by assumption)⟩
end Go.Proofs.YtoekhpnapnhefaaGreatDoor

namespace Go.Proofs.YtoekhpnapnhefaaGreatDoor
open Go.RowKit Go.Shelf
set_option linter.unusedVariables false
set_option linter.unusedSimpArgs false

theorem atoi_any (s : ByteArray) (v : Int) (w : World) (h : Lib.atoiAll s.data.toList = .ok v) (hs : s.size ≤ 9223372036854775806) :
    Calls Tryz.prog 96 #[.string s] w fun e w' => e = .returned (.tuple #[.int .i64 v, .nilIface]) ∧ Only (fun _ => False) w w' := by
  refine (Tryz.strconv_Atoi_ok_b s hs v h w).mono (fun e w' h => ?_)
  obtain ⟨h1, h2⟩ := h
  refine ⟨h1, ?_⟩
  rcases h2 with rfl | ⟨t, rfl⟩
  · exact Only.refl _ _
  · exact only_bytesWorld w t
set_option maxRecDepth 100000 in
theorem etext_any (r s : Int) (hr : I64 r) (hs : I64 s) (w : World) (ht : Tab w) :
    Calls Tryz.prog 67 #[.agg #[.int .i64 r, .int .i64 s]] w fun e w' => e = .returned (.string ⟨(txt r s).toArray⟩) ∧ Only (fun _ => False) w w' := by
  have A := Lib.hid (At.new w 26 [.int .i64 r, .int .i64 s])
  have O := Lib.hid ((Only.refl (fun _ => False) w).alloc (.cells [.int .i64 r, .int .i64 s].toArray 26))
  obtain ⟨x, hx⟩ : ∃ x, x = ByteArray.mk (Lib.itoa r).toArray := ⟨_, rfl⟩
  obtain ⟨y, hy⟩ : ∃ y, y = ByteArray.mk (Lib.itoa s).toArray := ⟨_, rfl⟩
  have hxz : x.size ≤ 21 := by rw [hx]; exact Lib.itoa_length_le r hr.1 hr.2
  have hyz : y.size ≤ 21 := by rw [hy]; exact Lib.itoa_length_le s hs.1 hs.2
  obtain ⟨t, hte⟩ : ∃ t, t = x ++ ByteArray.mk #[46] ++ y := ⟨_, rfl⟩
  have HT := Lib.hid (show ByteArray.mk (txt r s).toArray = t by rw [hte, hx, hy, ByteArray.mk_append_mk', ByteArray.mk_append_mk']; simp [txt])
  have HTE := Lib.hid hte.symm
  have hneg1 : ¬ (9223372036854775807 < x.size + 1) := by omega
  have hneg2 : ¬ (9223372036854775807 < x.size + 1 + y.size) := by omega
  have IA := Lib.hid (show ∀ W, Only (fun _ => False) w W → Calls Tryz.prog 92 #[.int .i64 r] W fun e w' => e = .returned (.string x) ∧ Only (fun _ => False) W w' from fun W o => by rw [hx]; exact itoa_any r hr w W ht o)
  have IB := Lib.hid (show ∀ W, Only (fun _ => False) w W → Calls Tryz.prog 92 #[.int .i64 s] W fun e w' => e = .returned (.string y) ∧ Only (fun _ => False) W w' from fun W o => by rw [hy]; exact itoa_any s hs w W ht o)
  clear hx hy hte hr hs ht hxz hyz
  go_enter Tryz.func67, Tryz.ntmps67
  go_wp2_with fail
  obtain ⟨w1, hw1⟩ : ∃ w1, w1 = w.alloc (.cells #[.int .i64 r, .int .i64 s] 26) := ⟨_, rfl⟩
  rw [← hw1]
  have A1 : Hid (At w1 w.heap.size 26 [.int .i64 r, .int .i64 s]) := Lib.hid (by rw [hw1]; exact A.out)
  have O1 : Hid (Only (fun _ => False) w w1) := Lib.hid (by rw [hw1]; exact O.out)
  clear hw1 A O
  obtain ⟨X, F, FM⟩ := fam w1
  have NE := FM.ne
  have c0 := FM.cell (A1.out.cell (i := 0) rfl)
  have c1 := FM.cell (A1.out.cell (i := 1) rfl)
  have OX := Lib.hid (fun x => O1.out.trans (FM.own x) (fun _ _ h => h))
  refine FM.region (by kernel_rfl) (by kernel_rfl) ?_
  repeat (first | go_big_quiet_step ((first | (go_at_call_of 92 (Value.int IntKind.i64 r); with_reducible exact FM.call (IA.out _ (OX.out _))) | (go_at_call_of 92 (Value.int IntKind.i64 s); with_reducible exact FM.call (IB.out _ (OX.out _))))) | quiet_step (fail))
  refine wpQuiet_nil ?_
  intro x1
  go_wp2_with fail
  go_ret
  exact ⟨by rw [HT.out, ← HTE.out]; rfl, OX.out x1⟩
end Go.Proofs.YtoekhpnapnhefaaGreatDoor

namespace Go.Proofs.YtoekhpnapnhefaaGreatDoor
open Go.RowKit Go.Shelf
set_option linter.unusedVariables false
set_option linter.unusedSimpArgs false

set_option maxRecDepth 100000 in
theorem eread_any (s a b : ByteArray) (f : Bool) (v u : Int) (w : World) (ht : Tab w) (hm : MaxL w) (hs : s.size < 4294967281) (ha : a.size ≤ 4294967281) (hb : b.size ≤ 4294967281) (hv : I64 v) (hu : I64 u)
    (hc : Lib.cut s.data.toList [46] = (a.data.toList, b.data.toList, f)) (pa : Lib.atoiAll a.data.toList = .ok v) (pb : Lib.atoiAll b.data.toList = .ok u) :
    Calls Tryz.prog 66 #[.string s] w fun e w' => e = .returned (if txt v u = s.data.toList then .tuple #[.agg #[.int .i64 v, .int .i64 u], .bool true] else .tuple #[.agg #[.int .i64 0, .int .i64 0], .bool false]) ∧ Only (fun _ => False) w w' := by
  have CT := Lib.hid (fun W (o : Only (fun _ => False) w W) => cut_any s W (hm.only o) hs a b f hc)
  have PA := Lib.hid (fun W => atoi_any a v W pa (by omega))
  have PB := Lib.hid (fun W => atoi_any b u W pb (by omega))
  obtain ⟨t, hte⟩ : ∃ t, t = ByteArray.mk (txt v u).toArray := ⟨_, rfl⟩
  have TX := Lib.hid (show ∀ W, Only (fun _ => False) w W → Calls Tryz.prog 67 #[.agg #[.int .i64 v, .int .i64 u]] W fun e w' => e = .returned (.string t) ∧ Only (fun _ => False) W w' from fun W o => by rw [hte]; exact etext_any v u hv hu W (ht.only o))
  have HT := Lib.hid hte
  clear ht hm hs ha hb hc pa pb hte
  go_enter Tryz.func66, Tryz.ntmps66
  go_wp2_with (with_reducible refine wpl_alloc_all (o := ⟨some 2, _, _, _, _, _⟩) rfl _ rfl _ (zeroP _) ?_; intro w1 h1 o1 s1; have A := Lib.hid h1; have O := Lib.hid o1; clear h1 o1 s1)
  refine (CT.out _ O.out).mono ?_
  rintro e wc1 ⟨rfl, oo⟩
  replace O := Lib.hid (O.out.trans oo (fun _ _ h => h))
  replace A := Lib.hid (A.out.only oo (fun h => h))
  clear oo
  go_wp2_with fail
  refine (PA.out _).mono ?_
  rintro e wc2 ⟨rfl, oo⟩
  replace O := Lib.hid (O.out.trans oo (fun _ _ h => h))
  replace A := Lib.hid (A.out.only oo (fun h => h))
  clear oo
  go_wp2_with fail
  refine (PB.out _).mono ?_
  rintro e w3 ⟨rfl, oo⟩
  replace O := Lib.hid (O.out.trans oo (fun _ _ h => h))
  replace A := Lib.hid (A.out.only oo (fun h => h))
  clear oo
  go_wp2_with fail
  have B := Lib.hid (At.new w3 26 [.int .i64 v, .int .i64 u])
  have hne : w.heap.size ≠ w3.heap.size := by have := A.out.lt; omega
  refine (TX.out _ (O.out.alloc (.cells [.int .i64 v, .int .i64 u].toArray 26))).mono ?_
  rintro e w4 ⟨rfl, oo⟩
  replace O := Lib.hid ((O.out.alloc (.cells [.int .i64 v, .int .i64 u].toArray 26)).trans oo (fun _ _ h => h))
  replace A := Lib.hid ((A.out.alloc (.cells [.int .i64 v, .int .i64 u].toArray 26)).only oo (fun h => h))
  replace B := Lib.hid (B.out.only oo (fun h => h))
  clear oo
  have c0 := A.out.cell (i := 0) rfl
  have c1 := A.out.cell (i := 1) rfl
  have f0 := A.out.frozen 0
  have f1 := A.out.frozen 1
  have d0 := B.out.cell (i := 0) rfl
  have d1 := B.out.cell (i := 1) rfl
  by_cases he : t = s
  · subst he
    have HE := Lib.hid (show txt v u = t.data.toList by rw [HT.out])
    go_wp2_with fail
    have hE : At _ w.heap.size 26 [.int .i64 v, .int .i64 u] := (A.out.put 0 (.int .i64 v)).put 1 (.int .i64 u)
    refine bodyPost_ret (results_cell_tmp rfl _ w.heap.size rfl 26 [.int .i64 v, .int .i64 u] _ hE Tryz.underlying26 rfl infoProof (.bool true) rfl) rfl ⟨?_, ?_⟩
    · first | rw [if_pos HE.out] | rfl
    · exact (O.out.put (p := ⟨w.heap.size, 0, none⟩) (fun h => absurd h (Nat.lt_irrefl _)) _).put (p := ⟨w.heap.size, 1, none⟩) (fun h => absurd h (Nat.lt_irrefl _)) _
  · have HE := Lib.hid (show ¬ txt v u = s.data.toList from fun h => he (by rw [HT.out, h]))
    have hb : (t.toList == s.toList) = false := by
      rw [beq_eq_false_iff_ne, ByteArray.toList_eq, ByteArray.toList_eq]
      exact fun h => he (ByteArray.ext (Array.toList_inj.1 h))
    go_wp2_with fail
    have hE : At _ w.heap.size 26 [.int .i64 0, .int .i64 0] := (A.out.put 0 (.int .i64 0)).put 1 (.int .i64 0)
    refine bodyPost_ret (results_cell_tmp rfl _ w.heap.size rfl 26 [.int .i64 0, .int .i64 0] _ hE Tryz.underlying26 rfl infoProof (.bool false) rfl) rfl ⟨?_, ?_⟩
    · first | rw [if_neg HE.out] | rfl
    · exact (O.out.put (p := ⟨w.heap.size, 0, none⟩) (fun h => absurd h (Nat.lt_irrefl _)) _).put (p := ⟨w.heap.size, 1, none⟩) (fun h => absurd h (Nat.lt_irrefl _)) _
/-! ### the examples' numbers -/
theorem pP_pw (A N : Nat) (h : N < 2 ^ 64) : pP (A : Int) (N : Int) = ((pw gP 64 A N : Nat) : Int) := by
  unfold pP
  rw [Int.toNat_natCast, show (2305843009213691579 : Int) = ((gP : Nat) : Int) from rfl, pm_nat, pw_eq gP 64 A N h]
theorem ex_k : provK 3 4 16 = 334738722642548386 := by decide +kernel
theorem ex_a : pP 4 3 = 64 := by have := pP_pw 4 3 (by decide); rw [show ((4 : Nat) : Int) = 4 from rfl] at this; exact this.trans (by decide +kernel)
theorem ex_b : pP 16 3 = 4096 := (pP_pw 16 3 (by decide)).trans (by decide +kernel)
theorem ex_r : pP 4 334738722642548386 = 1107481360607456119 := (pP_pw 4 334738722642548386 (by decide)).trans (by decide +kernel)
theorem ex_s : pP 16 334738722642548386 = 412069305609881112 := (pP_pw 16 334738722642548386 (by decide)).trans (by decide +kernel)
theorem ex_c : provC 3 4 16 334738722642548386 = 435937659163829742 := by
  unfold provC
  rw [ex_a, ex_b, ex_r, ex_s]
  decide +kernel
theorem ex_z : provZ 3 4 16 334738722642548386 = 489630195527191823 := by
  unfold provZ
  rw [ex_c]
  decide +kernel
theorem ex_gz : pP 4 489630195527191823 * pP 64 (1152921504606845789 - 435937659163829742) % 2305843009213691579 = 1107481360607456119 := by
  rw [show (1152921504606845789 : Int) - 435937659163829742 = 716983845443016047 by decide]
  have e1 := pP_pw 4 489630195527191823 (by decide)
  have e2 := pP_pw 64 716983845443016047 (by decide)
  rw [show pP 4 489630195527191823 = _ from e1, show pP 64 716983845443016047 = _ from e2]
  decide +kernel
theorem ex_hz (b : Nat) (v : Int) (h : ((pw gP 64 16 489630195527191823 : Nat) : Int) * ((pw gP 64 b 716983845443016047 : Nat) : Int) % 2305843009213691579 = v) : sideE 16 (b : Int) 435937659163829742 489630195527191823 = v := by
  unfold sideE
  rw [show (1152921504606845789 : Int) - 435937659163829742 = 716983845443016047 by decide]
  have e1 := pP_pw 16 489630195527191823 (by decide)
  have e2 := pP_pw b 716983845443016047 (by decide)
  rw [show pP 16 489630195527191823 = _ from e1, show pP (b : Int) 716983845443016047 = _ from e2]
  exact h
theorem memB_pow4 (n : Nat) : memB (((4 ^ n % gP : Nat) : Int)) = true := memB_nat (Mem_four.pow n)
theorem ex_yes : verE 4 64 16 4096 435937659163829742 489630195527191823 = true := by
  have h4 : memB 4 = true := memB_nat Mem_four
  have h64 : memB 64 = true := memB_pow4 3
  have h16 : memB 16 = true := memB_pow4 2
  have h4096 : memB 4096 = true := memB_pow4 6
  have hs : sideE 16 4096 435937659163829742 489630195527191823 = 412069305609881112 := ex_hz 4096 412069305609881112 (by decide +kernel)
  unfold verE
  rw [show [(4 : Int), 64, 16, 4096].all memB = true by simp [h4, h64, h16, h4096], show sideE 4 64 435937659163829742 489630195527191823 = 1107481360607456119 from ex_gz, hs]
  decide +kernel
theorem ex_no : verE 4 64 16 256 435937659163829742 489630195527191823 = false := by
  have h4 : memB 4 = true := memB_nat Mem_four
  have h64 : memB 64 = true := memB_pow4 3
  have h16 : memB 16 = true := memB_pow4 2
  have h256 : memB 256 = true := memB_pow4 4
  have hs : sideE 16 256 435937659163829742 489630195527191823 = 1874012426199476279 := ex_hz 256 1874012426199476279 (by decide +kernel)
  unfold verE
  rw [show [(4 : Int), 64, 16, 256].all memB = true by simp [h4, h64, h16, h256], show sideE 4 64 435937659163829742 489630195527191823 = 1107481360607456119 from ex_gz, hs]
  decide +kernel
end Go.Proofs.YtoekhpnapnhefaaGreatDoor

namespace Go.Proofs.YtoekhpnapnhefaaGreatDoor
open Go.RowKit Go.Shelf
set_option linter.unusedVariables false
set_option linter.unusedSimpArgs false

theorem eql_proof (w : World) (a b c d : Int) : (binOp .eql 26 (.agg #[.int .i64 a, .int .i64 b]) (.agg #[.int .i64 c, .int .i64 d])).run Tryz.prog w = .ok (.bool (a == c && b == d)) w := by
  rw [run_eql_struct]
  go_simp
  by_cases h1 : a = c <;> by_cases h2 : b = d <;> simp [h1, h2]
theorem eql_proof_same (w : World) (a b : Int) : (binOp .eql 26 (.agg #[.int .i64 a, .int .i64 b]) (.agg #[.int .i64 a, .int .i64 b])).run Tryz.prog w = .ok (.bool true) w := by
  rw [eql_proof]; simp
theorem guard_proof (w : World) (x y : Operand) (a b c d : Int) : (eqGuard .eql 26 x y (.agg #[.int .i64 a, .int .i64 b]) (.agg #[.int .i64 c, .int .i64 d])).run Tryz.prog w = .ok () w := by
  go_simp
theorem atoi1 : Lib.atoiAll (ByteArray.mk #[49, 50]).data.toList = .ok 12 := by decide +kernel
theorem atoi2 : Lib.atoiAll (ByteArray.mk #[48, 49, 50]).data.toList = .ok 12 := by decide +kernel
theorem atoi3 : Lib.atoiAll (ByteArray.mk #[51]).data.toList = .ok 3 := by decide +kernel
theorem txt12 : ByteArray.mk (txt 12 3).toArray = ByteArray.mk #[49, 50, 46, 51] := by rw [show txt 12 3 = [49, 50, 46, 51] by decide +kernel]
set_option maxRecDepth 100000 in
set_option maxHeartbeats 2000000 in
theorem sanity6 (w : World) (ht : Tab w) (hm : MaxL w) :
    Calls Tryz.prog 25 #[] w fun e w' => e = .returned (.bool true) ∧ Only (fun _ => False) w w' := by
  have PR := Lib.hid (fun W (o : Only (fun _ => False) w W) => eprove_any 3 4 16 W (ht.only o) (by unfold I64; omega) (memB_nat Mem_four) (memB_pow4 2))
  rw [show (3 : Int) % 1152921504606845789 = 3 by decide, ex_k, ex_c, ex_z] at PR
  have PN := Lib.hid (fun W => eprove_no 3 0 16 W (by unfold I64; omega) (by unfold I64; omega) (by rw [show memB 0 = false by unfold memB; rw [decide_eq_false]; omega]; rfl))
  have V1 := Lib.hid (fun W (o : Only (fun _ => False) w W) => everify_any 4 64 16 4096 435937659163829742 489630195527191823 W (ht.only o) (by unfold I64; omega) (by unfold I64; omega) (by unfold I64; omega) (by unfold I64; omega) (by unfold I64; omega) (by unfold I64; omega))
  have V2 := Lib.hid (fun W (o : Only (fun _ => False) w W) => everify_any 4 64 16 256 435937659163829742 489630195527191823 W (ht.only o) (by unfold I64; omega) (by unfold I64; omega) (by unfold I64; omega) (by unfold I64; omega) (by unfold I64; omega) (by unfold I64; omega))
  rw [ex_yes] at V1
  rw [ex_no] at V2
  have R1 := Lib.hid (fun W (o : Only (fun _ => False) w W) => eread_any ⟨#[49, 50, 46, 51]⟩ ⟨#[49, 50]⟩ ⟨#[51]⟩ true 12 3 W (ht.only o) (hm.only o) (by decide) (by decide) (by decide) (by unfold I64; omega) (by unfold I64; omega) cut1 atoi1 atoi3)
  have R2 := Lib.hid (fun W (o : Only (fun _ => False) w W) => eread_any ⟨#[48, 49, 50, 46, 51]⟩ ⟨#[48, 49, 50]⟩ ⟨#[51]⟩ true 12 3 W (ht.only o) (hm.only o) (by decide) (by decide) (by decide) (by unfold I64; omega) (by unfold I64; omega) cut2 atoi2 atoi3)
  rw [if_pos txt1] at R1
  rw [if_neg txt2] at R2
  have TX := Lib.hid (fun W (o : Only (fun _ => False) w W) => etext_any 12 3 (by unfold I64; omega) (by unfold I64; omega) W (ht.only o))
  rw [txt12] at TX
  have O := Lib.hid (Only.refl (fun _ => False) w)
  generalize (435937659163829742 : Int) = c at *
  generalize (489630195527191823 : Int) = z at *
  clear ht hm
  go_enter Tryz.func25, Tryz.ntmps25
  go_wp2_with fail
  refine (PR.out _ O.out).mono ?_
  rintro e w1 ⟨rfl, oo⟩
  replace O := Lib.hid (O.out.trans oo (fun _ _ h => h))
  clear oo
  go_wp2_with fail
  have A := Lib.hid (At.new w1 26 [.int .i64 c, .int .i64 z])
  replace O := Lib.hid (O.out.alloc (.cells [.int .i64 c, .int .i64 z].toArray 26))
  refine (R1.out _ O.out).mono ?_
  rintro e w2 ⟨rfl, oo⟩
  replace O := Lib.hid (O.out.trans oo (fun _ _ h => h))
  replace A := Lib.hid (A.out.only oo (fun h => h))
  clear oo
  go_wp2_with fail
  have B := Lib.hid (At.new w2 26 [.int .i64 12, .int .i64 3])
  replace O := Lib.hid (O.out.alloc (.cells [.int .i64 12, .int .i64 3].toArray 26))
  replace A := Lib.hid (A.out.alloc (.cells [.int .i64 12, .int .i64 3].toArray 26))
  refine (R2.out _ O.out).mono ?_
  rintro e w3 ⟨rfl, oo⟩
  replace O := Lib.hid (O.out.trans oo (fun _ _ h => h))
  replace A := Lib.hid (A.out.only oo (fun h => h))
  replace B := Lib.hid (B.out.only oo (fun h => h))
  clear oo
  replace O := Lib.hid (O.out.alloc (.cells [.int .i64 0, .int .i64 0].toArray 26))
  replace A := Lib.hid (A.out.alloc (.cells [.int .i64 0, .int .i64 0].toArray 26))
  replace B := Lib.hid (B.out.alloc (.cells [.int .i64 0, .int .i64 0].toArray 26))
  have c0 := A.out.cell (i := 0) rfl
  have c1 := A.out.cell (i := 1) rfl
  go_wp2_with fail
  refine (V1.out _ O.out).mono ?_
  rintro e w4 ⟨rfl, oo⟩
  replace O := Lib.hid (O.out.trans oo (fun _ _ h => h))
  replace A := Lib.hid (A.out.only oo (fun h => h))
  replace B := Lib.hid (B.out.only oo (fun h => h))
  clear oo c0 c1
  have c0 := A.out.cell (i := 0) rfl
  have c1 := A.out.cell (i := 1) rfl
  go_wp2_with fail
  refine (V2.out _ O.out).mono ?_
  rintro e w5 ⟨rfl, oo⟩
  replace O := Lib.hid (O.out.trans oo (fun _ _ h => h))
  replace B := Lib.hid (B.out.only oo (fun h => h))
  clear oo c0 c1
  go_wp2_with fail
  refine (PN.out _).mono ?_
  rintro e w6 ⟨rfl, oo⟩
  replace O := Lib.hid (O.out.trans oo (fun _ _ h => h))
  replace B := Lib.hid (B.out.only oo (fun h => h))
  clear oo
  go_wp2_with (refine wpl_bin (o := ⟨some 25, _, _, _, _, _⟩) rfl .eql 26 26 (.tmp 23) (.tmp 24) rfl _ _ _ rfl rfl (guard_proof _ _ _ _ _ _ _) (eql_proof_same _ _ _) ?_)
  refine (TX.out _ O.out).mono ?_
  rintro e w7 ⟨rfl, oo⟩
  replace O := Lib.hid (O.out.trans oo (fun _ _ h => h))
  replace B := Lib.hid (B.out.only oo (fun h => h))
  clear oo
  have c0 := B.out.cell (i := 0) rfl
  have c1 := B.out.cell (i := 1) rfl
  go_wp2_with (refine wpl_bin (o := ⟨some 38, _, _, _, _, _⟩) rfl .eql 26 26 (.tmp 36) (.tmp 37) rfl _ _ _ rfl rfl (guard_proof _ _ _ _ _ _ _) (eql_proof_same _ _ _) ?_)
  go_ret
  exact ⟨rfl, O.out⟩
end Go.Proofs.YtoekhpnapnhefaaGreatDoor
