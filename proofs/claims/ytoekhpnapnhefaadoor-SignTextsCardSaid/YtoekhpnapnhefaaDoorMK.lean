/-
  Texts of two numbers with a dot between them, plain: what a reader answers; the digits that a reference adds up.
  strings.Cut at any string (separator: a dot), ParseInt's errors, sign.Read at any text: contracts.
  sign.Read at any text: contract.
  Arguments of statements, opened: structs with strings, small numbers; the two sentinels of strconv.
-/
import Derived.Shelf.Strconv.ErrVarParseInt
import Derived.Test.YtoekhpnapnhefaaDoorMA
import Derived.Test.YtoekhpnapnhefaaDoorMD
import Derived.Test.YtoekhpnapnhefaaDoorShelg
import Derived.Test.YtoekhpnapnhefaaDoorME
namespace Go.Proofs.YtoekhpnapnhefaaDoor
open Go Go.RowKit
set_option linter.unusedVariables false
set_option linter.unusedSimpArgs false

def IsTxt (s : List UInt8) (v u : Int) : Prop := I64 v ∧ I64 u ∧ s = txt v u
/-- what a reader answers at s -/
def Rd (s : List UInt8) (v u : Int) (b : Bool) : Prop := (b = true ∧ IsTxt s v u) ∨ (b = false ∧ v = 0 ∧ u = 0 ∧ ∀ x y, ¬ IsTxt s x y)
theorem rd_total (s : List UInt8) : ∃ v u b, Rd s v u b := by
  by_cases h : ∃ v u, IsTxt s v u
  · obtain ⟨v, u, h⟩ := h
    exact ⟨v, u, true, .inl ⟨rfl, h⟩⟩
  · exact ⟨0, 0, false, .inr ⟨rfl, rfl, rfl, fun x y hx => h ⟨x, y, hx⟩⟩⟩
theorem txt_split {v u : Int} {a b : List UInt8} (ha : ∀ x ∈ a, x ≠ 46) (h : txt v u = a ++ 46 :: b) : a = Lib.itoa v ∧ b = Lib.itoa u := by
  have := split_dot (fun x hx => not_dot (itoa_no_dot v x hx)) ha h
  exact ⟨this.1.symm, this.2.symm⟩
theorem txt_inj {v u v' u' : Int} (h : txt v u = txt v' u') : v = v' ∧ u = u' := by
  have := txt_split (fun x hx => not_dot (itoa_no_dot v' x hx)) h
  exact ⟨itoa_inj this.1.symm, itoa_inj this.2.symm⟩
theorem Rd.range {s : List UInt8} {v u : Int} {b : Bool} (h : Rd s v u b) : I64 v ∧ I64 u := by
  rcases h with ⟨_, h1, h2, _⟩ | ⟨_, rfl, rfl, _⟩
  · exact ⟨h1, h2⟩
  · exact ⟨by unfold I64; omega, by unfold I64; omega⟩
theorem rd_txt {v u : Int} (hv : I64 v) (hu : I64 u) : Rd (txt v u) v u true := .inl ⟨rfl, hv, hu, rfl⟩
theorem Rd.uniq {s : List UInt8} {v u v' u' : Int} {b b' : Bool} (h : Rd s v u b) (h' : Rd s v' u' b') : v = v' ∧ u = u' ∧ b = b' := by
  rcases h with ⟨rfl, h1⟩ | ⟨rfl, rfl, rfl, h1⟩ <;> rcases h' with ⟨rfl, h2⟩ | ⟨rfl, rfl, rfl, h2⟩
  · have := txt_inj (h1.2.2.symm.trans h2.2.2)
    exact ⟨this.1, this.2, rfl⟩
  · exact absurd h1 (h2 _ _)
  · exact absurd h2 (h1 _ _)
  · exact ⟨rfl, rfl, rfl⟩
theorem txt_has_dot (v u : Int) : (46 : UInt8) ∈ txt v u := by unfold txt; simp
theorem txt_len {v u : Int} (hv : I64 v) (hu : I64 u) : (txt v u).length ≤ 43 := by
  have h1 := Lib.itoa_length_le v hv.1 hv.2
  have h2 := Lib.itoa_length_le u hu.1 hu.2
  have h1' : (Lib.itoa v).length ≤ 21 := by simpa using h1
  have h2' : (Lib.itoa u).length ≤ 21 := by simpa using h2
  unfold txt
  rw [List.length_append, List.length_cons]
  omega

/-! ### what a search for a dot finds -/
theorem cut_dot : ∀ {a b : List UInt8}, (∀ x ∈ a, x ≠ 46) → Lib.cut (a ++ 46 :: b) [46] = (a, b, true) := by
  intro a b ha
  have hi : Lib.index (a ++ 46 :: b) [46] = (a.length : Int) := by
    induction a with
    | nil => unfold Lib.index; simp [List.isPrefixOf]
    | cons c a ih =>
      have hc : c ≠ 46 := ha c (by simp)
      have := ih (fun x hx => ha x (by simp [hx]))
      rw [List.cons_append]
      unfold Lib.index
      rw [this]
      have h1 : List.isPrefixOf [46] (c :: (a ++ 46 :: b)) = false := by
        simp [List.isPrefixOf]
        exact fun h => hc h.symm
      rw [h1]
      have h2 : ((a.length : Int) == -1) = false := by rw [beq_eq_false_iff_ne]; omega
      simp [h2]
  unfold Lib.cut
  rw [hi, if_pos (by omega)]
  simp
theorem cut_none {s : List UInt8} (h : ∀ x ∈ s, x ≠ 46) : Lib.cut s [46] = (s, [], false) := by
  have hi : Lib.index s [46] = -1 := by
    induction s with
    | nil => rfl
    | cons c a ih =>
      have hc : c ≠ 46 := h c (by simp)
      have := ih (fun x hx => h x (by simp [hx]))
      unfold Lib.index
      rw [this]
      have h1 : List.isPrefixOf [46] (c :: a) = false := by
        simp [List.isPrefixOf]
        exact fun h => hc h.symm
      rw [h1]
      rfl
  unfold Lib.cut
  rw [hi]
  rfl
/-- a list has no dot, or splits at its first one -/
theorem dot_cases : ∀ s : List UInt8, (∀ x ∈ s, x ≠ 46) ∨ ∃ a b, s = a ++ 46 :: b ∧ ∀ x ∈ a, x ≠ 46
  | [] => .inl (fun x hx => by cases hx)
  | c :: s => by
    by_cases hc : c = 46
    · exact .inr ⟨[], s, by rw [hc]; rfl, fun x hx => by cases hx⟩
    · rcases dot_cases s with h | ⟨a, b, h1, h2⟩
      · refine .inl fun x hx => ?_
        rcases List.mem_cons.1 hx with h3 | h3
        · rw [h3]; exact hc
        · exact h x h3
      · refine .inr ⟨c :: a, b, by rw [h1]; rfl, fun x hx => ?_⟩
        rcases List.mem_cons.1 hx with h3 | h3
        · rw [h3]; exact hc
        · exact h2 x h3

/-! ### digits that are added up, with the sign turned, in 64 bits -/
theorem neg_step (V d : Int) : IntKind.i64.wrap (IntKind.i64.wrap (10 * IntKind.i64.wrap (-V)) - d) = IntKind.i64.wrap (-(10 * V + d)) := by
  simp only [IntKind.wrap_i64]
  omega
theorem neg_neg (V : Int) : IntKind.i64.wrap (-IntKind.i64.wrap (-V)) = IntKind.i64.wrap V := by
  simp only [IntKind.wrap_i64]
  omega
theorem wrap_in {V : Int} (h1 : -9223372036854775808 ≤ V) (h2 : V ≤ 9223372036854775807) : IntKind.i64.wrap V = V := by
  simp only [IntKind.wrap_i64]
  omega
theorem wrap_range (V : Int) : I64 (IntKind.i64.wrap V) := by
  unfold I64
  simp only [IntKind.wrap_i64]
  omega
/-- does it begin with a minus? then 1 -/
def atM (l : List UInt8) : Nat := if l.head? = some 45 then 1 else 0
/-- the number that digits and a sign make -/
def numOf (l : List UInt8) : Int := if atM l = 1 then IntKind.i64.wrap (-(valD (l.drop 1) : Int)) else IntKind.i64.wrap (valD l)
theorem numOf_range (l : List UInt8) : I64 (numOf l) := by
  unfold numOf
  split
  · exact wrap_range _
  · exact wrap_range _
/-- what a numeral looks like to such a reader -/
theorem numeral {m : Int} (hm : I64 m) : ∃ ds, Lib.itoa m = (if atM (Lib.itoa m) = 1 then [45] else []) ++ ds ∧ (Lib.itoa m).drop (atM (Lib.itoa m)) = ds ∧ ds ≠ [] ∧ ds.length ≤ 19 ∧ (∀ c ∈ ds, IsDig c) ∧ numOf (Lib.itoa m) = m := by
  obtain ⟨s, ds, e, hd, hne, hl, hn, hv, hv2⟩ := itoa_form hm.1 hm.2
  cases s
  · simp only [Bool.false_eq_true, if_false, List.nil_append] at e hn
    have ha : atM (Lib.itoa m) = 0 := by
      rw [e]
      unfold atM
      match ds, hne with
      | c :: r, _ =>
        have := hd c (by simp)
        rw [if_neg]
        simp only [List.head?_cons, Option.some.injEq]
        intro h
        rw [h] at this
        unfold IsDig at this
        simp at this
    rw [ha]
    refine ⟨ds, by rw [e]; rfl, by rw [e]; rfl, hne, hl, hd, ?_⟩
    unfold numOf
    rw [ha, if_neg (by omega), e]
    rw [wrap_in (by omega) (by have := hv2 rfl; omega)]
    omega
  · simp only [if_true] at e hn
    have ha : atM (Lib.itoa m) = 1 := by rw [e]; rfl
    rw [ha]
    refine ⟨ds, by rw [e]; rfl, by rw [e]; rfl, hne, hl, hd, ?_⟩
    unfold numOf
    rw [ha, if_pos rfl, e]
    show IntKind.i64.wrap (-(valD ds : Int)) = m
    rw [wrap_in (by omega) (by omega)]
    omega
/-- is it a numeral? then its number -/
def IsNum (s : List UInt8) (m : Int) : Prop := I64 m ∧ s = Lib.itoa m
theorem isNum_uniq {s : List UInt8} {m n : Int} (h : IsNum s m) (k : IsNum s n) : m = n := itoa_inj (h.2.symm.trans k.2)
theorem rd_nums {a b : List UInt8} {v u : Int} (ha : ∀ x ∈ a, x ≠ 46) : IsTxt (a ++ 46 :: b) v u ↔ IsNum a v ∧ IsNum b u := by
  constructor
  · rintro ⟨h1, h2, h3⟩
    have := txt_split ha h3.symm
    exact ⟨⟨h1, this.1⟩, ⟨h2, this.2⟩⟩
  · rintro ⟨⟨h1, h2⟩, ⟨h3, h4⟩⟩
    exact ⟨h1, h3, by rw [h2, h4]; rfl⟩
theorem rd_dotless {s : List UInt8} (h : ∀ x ∈ s, x ≠ 46) (v u : Int) : ¬ IsTxt s v u := fun ht => h 46 (by rw [ht.2.2]; exact txt_has_dot v u) rfl
theorem parse_isNum {s : List UInt8} {m : Int} (h : IsNum s m) : Lib.parseIntB 64 s = .ok m := by rw [h.2]; exact parse_itoa h.1.1 h.1.2
theorem atoi_isNum {s : List UInt8} {m : Int} (h : IsNum s m) : Lib.atoiAll s = .ok m := by rw [h.2]; exact atoi_itoa h.1.1 h.1.2
theorem parse_range {s : List UInt8} {v : Int} (h : Lib.parseIntB 64 s = .ok v) : I64 v := by
  unfold Lib.parseIntB at h
  split at h
  · cases h
  · dsimp only at h
    split at h
    · cases h
    · cases h
    · rename_i u _
      have e63 : (2 : Nat) ^ (64 - 1) = 9223372036854775808 := by decide
      rw [e63] at h
      unfold I64
      split at h
      · cases h
      · split at h
        · cases h
        · injection h with h
          split at h <;> omega
theorem atoi_range {s : List UInt8} {v : Int} (h : Lib.atoiAll s = .ok v) : I64 v := by
  unfold Lib.atoiAll at h
  split at h
  · cases h
  · dsimp only at h
    split at h
    · cases h
    · cases h
    · rename_i u _
      unfold I64
      split at h
      · cases h
      · split at h
        · cases h
        · injection h with h
          split at h <;> omega
end Go.Proofs.YtoekhpnapnhefaaDoor

namespace Go.Proofs.YtoekhpnapnhefaaDoor
open Go.RowKit Go.Shelf
set_option linter.unusedVariables false
set_option linter.unusedSimpArgs false

theorem var_only {w w' : World} {s : String} {r : Array Value} (h : w.var? Tryd.prog s = some r) (o : Only (fun _ => False) w w') : w'.var? Tryd.prog s = some r := by
  unfold World.var? at h ⊢
  cases hg : Tryd.prog.globalNamed s with
  | none => simp [hg] at h
  | some g =>
    simp only [hg, Option.bind_some] at h ⊢
    have hlt : g < w.heap.size := by
      rcases Nat.lt_or_ge g w.heap.size with h' | h'
      · exact h'
      · simp [Array.getElem?_eq_none h'] at h
    rw [o.same g hlt (fun h => h)]
    exact h
/-- what the two sentinels of strconv hold -/
def ErrV (w : World) : Prop := (∃ tp p, w.var? Tryd.prog "strconv.ErrSyntax" = some #[.iface tp p]) ∧ (∃ tp p, w.var? Tryd.prog "strconv.ErrRange" = some #[.iface tp p])
theorem ErrV.only {w w' : World} (h : ErrV w) (o : Only (fun _ => False) w w') : ErrV w' := by
  obtain ⟨⟨t, p, h1⟩, ⟨u, q, h2⟩⟩ := h
  exact ⟨⟨t, p, var_only h1 o⟩, ⟨u, q, var_only h2 o⟩⟩
/-- every end of ParseInt, in one form: v with nil where the text spells a number, something with an error else -/
theorem parse_err (s : ByteArray) (w : World) (hE : ErrV w) (h : ∀ v, Lib.parseIntB 64 s.data.toList ≠ .ok v) (hs : s.size ≤ 281474976710656) :
    Calls Tryd.prog 56 #[.string s, .int .i64 10, .int .i64 64] w fun e w' => (∃ v N, e = .returned (.tuple #[.int .i64 v, .iface 138 (.pointer (some ⟨N, 0, none⟩))])) ∧ Only (fun _ => False) w w' := by
  obtain ⟨⟨t, p, h1⟩, ⟨u, q, h2⟩⟩ := hE
  have fin : ∀ e w', (∃ v N, e = Ending.returned (.tuple #[.int .i64 v, .iface 138 (.pointer (some ⟨N, 0, none⟩))])) → Below w.heap.size w w' → (∃ v N, e = .returned (.tuple #[.int .i64 v, .iface 138 (.pointer (some ⟨N, 0, none⟩))])) ∧ Only (fun _ => False) w w' := fun e w' h b => ⟨h, Only.of_below b (fun i h1 h2 => by omega)⟩
  cases hp : Lib.parseIntB 64 s.data.toList
  case ok v => exact absurd hp (h v)
  all_goals first
    | exact (Any.strconv_ParseInt_10_at64_syntax_var Tryd.laysC174_b s hs hp t p w h1).mono (fun e w' h => by obtain ⟨N, h3, _, _, h4⟩ := h; exact fin e w' ⟨_, N, h3⟩ h4)
    | exact (Any.strconv_ParseInt_10_at64_range_var Tryd.laysC174_b s hs hp u q w h2).mono (fun e w' h => by obtain ⟨N, h3, _, _, h4⟩ := h; exact fin e w' ⟨_, N, h3⟩ h4)
theorem parse_okl (s : ByteArray) (v : Int) (w : World) (h : Lib.parseIntB 64 s.data.toList = .ok v) (hs : s.size ≤ 281474976710656) :
    Calls Tryd.prog 56 #[.string s, .int .i64 10, .int .i64 64] w fun e w' => e = .returned (.tuple #[.int .i64 v, .nilIface]) ∧ Only (fun _ => False) w w' := by
  refine (Tryd.strconv_ParseInt_10_at64_ok s (by omega) v h w).mono (fun e w' h => ?_)
  obtain ⟨h1, h2⟩ := h
  refine ⟨h1, ?_⟩
  rcases h2 with rfl | ⟨t, rfl⟩
  · exact Only.refl _ _
  · exact only_bytesWorld w t
theorem indexByte_no {s : List UInt8} (h : ∀ x ∈ s, x ≠ 46) : Lib.indexByte s 46 = -1 := by
  induction s with
  | nil => rfl
  | cons c s ih =>
    have hc : (c == 46) = false := by rw [beq_eq_false_iff_ne]; exact h c (by simp)
    unfold Lib.indexByte
    rw [hc, ih fun x hx => h x (by simp [hx])]
    rfl
theorem indexByte_yes : ∀ {a b : List UInt8}, (∀ x ∈ a, x ≠ 46) → Lib.indexByte (a ++ 46 :: b) 46 = (a.length : Int)
  | [], b, _ => by unfold Lib.indexByte; simp
  | c :: a, b, h => by
    have hc : (c == 46) = false := by rw [beq_eq_false_iff_ne]; exact h c (by simp)
    have ih := indexByte_yes (a := a) (b := b) (fun x hx => h x (by simp [hx]))
    rw [List.cons_append]
    unfold Lib.indexByte
    rw [hc, ih]
    have h2 : ((a.length : Int) == -1) = false := by rw [beq_eq_false_iff_ne]; omega
    simp [h2]
theorem pre_take (a b : List UInt8) : (a ++ b).take a.length = a := by induction a with
  | nil => simp
  | cons c a ih => simp
theorem pre_drop (a b : List UInt8) : (a ++ 46 :: b).drop (a.length + 1) = b := by
  induction a with
  | nil => rfl
  | cons c a ih => rw [List.length_cons, List.cons_append, List.drop_succ_cons]; exact ih
theorem ext_pre {s a : ByteArray} {r : List UInt8} (hs : s.data.toList = a.data.toList ++ r) : s.extract 0 a.size = a := by
  have ea : a.data.toList.length = a.size := Array.length_toList
  apply ByteArray.ext; apply Array.toList_inj.1
  rw [ByteArray.data_extract, Array.toList_extract, List.extract_eq_take_drop, hs, List.drop_zero, Nat.sub_zero, ← ea, pre_take]
theorem ext_post {s b : ByteArray} {a : List UInt8} {n : Nat} (hn : a.length = n) (hs : s.data.toList = a ++ 46 :: b.data.toList) : s.extract (n + 1) s.size = b := by
  have e1 : s.data.toList.length = s.size := Array.length_toList
  have hl := congrArg List.length hs
  rw [List.length_append, List.length_cons] at hl
  apply ByteArray.ext; apply Array.toList_inj.1
  rw [ByteArray.data_extract, Array.toList_extract, List.extract_eq_take_drop, hs, ← hn, pre_drop]
  exact List.take_of_length_le (by omega)
theorem cutD_no (s : ByteArray) (w : World) (h : ∀ x ∈ s.data.toList, x ≠ 46) :
    Calls Tryd.prog 55 #[.string s, .string ⟨#[46]⟩] w fun e w' => e = .returned (.tuple #[.string s, .string ⟨#[]⟩, .bool false]) ∧ Only (fun _ => False) w w' := by
  have IX := Lib.hid (fun W => Tryd.stringslite_Index_one_b s 46 W)
  rw [indexByte_no h] at IX
  have SC : Hid (∀ W, Calls Tryd.prog 86 #[.string s, .string ⟨#[46]⟩] W fun e w' => e = .returned (.tuple #[.string s, .string ⟨#[]⟩, .bool false]) ∧ w' = W) := Lib.hid (fun W => by
    go_enter Tryd.func86, Tryd.ntmps86
    go_wp2_with fail
    refine (IX.out _).mono ?_
    rintro e w1 ⟨rfl, rfl⟩
    go_wp2_with fail
    go_ret3
    exact ⟨rfl, rfl⟩)
  go_enter Tryd.func55, Tryd.ntmps55
  go_wp2_with fail
  refine (SC.out _).mono ?_
  rintro e w1 ⟨rfl, rfl⟩
  go_wp2_with fail
  go_ret3
  exact ⟨rfl, Only.refl _ _⟩
theorem cutD_yes (s a b : ByteArray) (w : World) (hs : s.data.toList = a.data.toList ++ 46 :: b.data.toList) (h : ∀ x ∈ a.data.toList, x ≠ 46) (hz : s.size ≤ 140737488355328) :
    Calls Tryd.prog 55 #[.string s, .string ⟨#[46]⟩] w fun e w' => e = .returned (.tuple #[.string a, .string b, .bool true]) ∧ Only (fun _ => False) w w' := by
  have IX := Lib.hid (fun W => Tryd.stringslite_Index_one_b s 46 W)
  have hl : s.size = a.size + 1 + b.size := by
    have := congrArg List.length hs
    simp only [List.length_append, List.length_cons] at this
    have e1 : s.data.toList.length = s.size := Array.length_toList
    have e2 : a.data.toList.length = a.size := Array.length_toList
    have e3 : b.data.toList.length = b.size := Array.length_toList
    omega
  have ea : a.data.toList.length = a.size := Array.length_toList
  rw [hs, indexByte_yes h, ea] at IX
  have EA := Lib.hid (ext_pre hs)
  have EB := Lib.hid (ext_post ea hs)
  have c1 : (0 : Int) ≤ (a.size : Int) := by omega
  have c2 : (a.size : Int) ≤ (s.size : Int) := by omega
  have c3 : (0 : Int) ≤ (a.size : Int) + 1 := by omega
  have c4 : (a.size : Int) + 1 ≤ (s.size : Int) := by omega
  have t1 : ((a.size : Int) + 1).toNat = a.size + 1 := by omega
  have v1 : IntKind.i64.wrap ((a.size : Int) + 1) = (a.size : Int) + 1 := IntWalk.i64_in _ (by omega)
  clear hs h hl ea hz
  have SC : Hid (∀ W, Calls Tryd.prog 86 #[.string s, .string ⟨#[46]⟩] W fun e w' => e = .returned (.tuple #[.string a, .string b, .bool true]) ∧ Only (fun _ => False) W w') := Lib.hid (fun W => by
    go_enter Tryd.func86, Tryd.ntmps86
    go_wp2_with fail
    refine (IX.out _).mono ?_
    rintro e w1 ⟨rfl, rfl⟩
    go_wp2_with fail
    obtain ⟨X, F, FM⟩ := fam w1
    have NE := FM.ne
    refine FM.region (by kernel_rfl) (by kernel_rfl) ?_
    repeat (first | go_big_quiet_step (fail) | quiet_step (fail))
    refine wpQuiet_nil ?_
    intro z
    go_wp2_with fail
    go_ret3
    rw [EA.out, EB.out]
    exact ⟨rfl, FM.own z⟩)
  go_enter Tryd.func55, Tryd.ntmps55
  go_wp2_with fail
  refine (SC.out _).mono ?_
  rintro e w1 ⟨rfl, oo⟩
  go_wp2_with fail
  go_ret3
  exact ⟨rfl, oo⟩
end Go.Proofs.YtoekhpnapnhefaaDoor

namespace Go.Proofs.YtoekhpnapnhefaaDoor
open Go.RowKit Go.Shelf
set_option linter.unusedVariables false
set_option linter.unusedSimpArgs false

/-- ParseInt, whatever it answers -/
theorem parse_gen (s : ByteArray) (w : World) (hE : ErrV w) (hs : s.size ≤ 281474976710656) :
    Calls Tryd.prog 56 #[.string s, .int .i64 10, .int .i64 64] w fun e w' => (∃ v ev, e = .returned (.tuple #[.int .i64 v, ev])) ∧ Only (fun _ => False) w w' := by
  by_cases h : ∃ v, Lib.parseIntB 64 s.data.toList = .ok v
  · obtain ⟨v, h⟩ := h
    exact (parse_okl s v w h hs).mono fun e w' h => ⟨⟨v, _, h.1⟩, h.2⟩
  · exact (parse_err s w hE (fun v hv => h ⟨v, hv⟩) hs).mono fun e w' h => by
      obtain ⟨⟨v, N, h1⟩, h2⟩ := h
      exact ⟨⟨v, _, h1⟩, h2⟩
theorem zeroSig (w : World) : (zeroValue 51).run Tryd.prog w = .ok (.agg [.int .i64 0, .int .i64 0].toArray) w := by kernel_rfl
set_option maxRecDepth 100000 in
theorem sread_dotless (s : ByteArray) (w : World) (h : ∀ x ∈ s.data.toList, x ≠ 46) :
    Calls Tryd.prog 27 #[.string s] w fun e w' => e = .returned (.tuple #[.agg #[.int .i64 0, .int .i64 0], .bool false]) ∧ Only (fun _ => False) w w' := by
  have CT := Lib.hid (fun W => cutD_no s W h)
  clear h
  go_enter Tryd.func27, Tryd.ntmps27
  go_wp2_with (with_reducible refine wpl_alloc_all (o := ⟨some 2, _, _, _, _, _⟩) rfl _ rfl _ (zeroSig _) ?_; intro w1 h1 o1 s1; have A := Lib.hid h1; have O := Lib.hid o1; clear h1 o1 s1)
  refine (CT.out _).mono ?_
  rintro e wc1 ⟨rfl, oo⟩
  replace O := Lib.hid (O.out.trans oo (fun _ _ h => h))
  replace A := Lib.hid (A.out.only oo (fun h => h))
  clear oo
  have c0 := A.out.cell (i := 0) rfl
  have c1 := A.out.cell (i := 1) rfl
  have f0 := A.out.frozen 0
  have f1 := A.out.frozen 1
  go_wp2_with fail
  refine bodyPost_ret (results_cell_tmp rfl _ w.heap.size rfl 51 [.int .i64 0, .int .i64 0] _ ((A.out.put 0 (.int .i64 0)).put 1 (.int .i64 0)) Tryd.underlying51 rfl infoSig (.bool false) rfl) rfl ⟨rfl, ?_⟩
  exact (O.out.put (p := ⟨w.heap.size, 0, none⟩) (fun h => absurd h (Nat.lt_irrefl _)) _).put (p := ⟨w.heap.size, 1, none⟩) (fun h => absurd h (Nat.lt_irrefl _)) _
set_option maxRecDepth 100000 in
theorem sread_first (s a b : ByteArray) (w : World) (hE : ErrV w) (hs : s.data.toList = a.data.toList ++ 46 :: b.data.toList) (h : ∀ x ∈ a.data.toList, x ≠ 46) (hz : s.size ≤ 140737488355328) (haz : a.size ≤ 140737488355328) (hbz : b.size ≤ 140737488355328)
    (hp : ∀ v, Lib.parseIntB 64 a.data.toList ≠ .ok v) :
    Calls Tryd.prog 27 #[.string s] w fun e w' => e = .returned (.tuple #[.agg #[.int .i64 0, .int .i64 0], .bool false]) ∧ Only (fun _ => False) w w' := by
  have CT := Lib.hid (fun W => cutD_yes s a b W hs h hz)
  have PA := Lib.hid (fun W (o : Only (fun _ => False) w W) => parse_err a W (hE.only o) hp (by omega))
  have PB := Lib.hid (fun W (o : Only (fun _ => False) w W) => parse_gen b W (hE.only o) (by omega))
  clear h hs hz haz hbz hp hE
  go_enter Tryd.func27, Tryd.ntmps27
  go_wp2_with (with_reducible refine wpl_alloc_all (o := ⟨some 2, _, _, _, _, _⟩) rfl _ rfl _ (zeroSig _) ?_; intro w1 h1 o1 s1; have A := Lib.hid h1; have O := Lib.hid o1; clear h1 o1 s1)
  refine (CT.out _).mono ?_
  rintro e wc1 ⟨rfl, oo⟩
  replace O := Lib.hid (O.out.trans oo (fun _ _ h => h))
  replace A := Lib.hid (A.out.only oo (fun h => h))
  clear oo
  go_wp2_with fail
  refine (PA.out _ O.out).mono ?_
  rintro e wd ⟨⟨va, N, rfl⟩, oo⟩
  replace O := Lib.hid (O.out.trans oo (fun _ _ h => h))
  replace A := Lib.hid (A.out.only oo (fun h => h))
  clear oo
  go_wp2_with fail
  refine (PB.out _ O.out).mono ?_
  rintro e we ⟨⟨vb, eb, rfl⟩, oo⟩
  replace O := Lib.hid (O.out.trans oo (fun _ _ h => h))
  replace A := Lib.hid (A.out.only oo (fun h => h))
  clear oo
  replace O := Lib.hid (O.out.alloc (.cells [.int .i64 va, .int .i64 vb].toArray 51))
  replace A := Lib.hid (A.out.alloc (.cells [.int .i64 va, .int .i64 vb].toArray 51))
  have c0 := A.out.cell (i := 0) rfl
  have c1 := A.out.cell (i := 1) rfl
  have f0 := A.out.frozen 0
  have f1 := A.out.frozen 1
  go_wp2_with fail
  refine bodyPost_ret (results_cell_tmp rfl _ w.heap.size rfl 51 [.int .i64 0, .int .i64 0] _ ((A.out.put 0 (.int .i64 0)).put 1 (.int .i64 0)) Tryd.underlying51 rfl infoSig (.bool false) rfl) rfl ⟨rfl, ?_⟩
  exact (O.out.put (p := ⟨w.heap.size, 0, none⟩) (fun h => absurd h (Nat.lt_irrefl _)) _).put (p := ⟨w.heap.size, 1, none⟩) (fun h => absurd h (Nat.lt_irrefl _)) _
set_option maxRecDepth 100000 in
theorem sread_second (s a b : ByteArray) (v : Int) (w : World) (hE : ErrV w) (hs : s.data.toList = a.data.toList ++ 46 :: b.data.toList) (h : ∀ x ∈ a.data.toList, x ≠ 46) (hz : s.size ≤ 140737488355328) (haz : a.size ≤ 140737488355328) (hbz : b.size ≤ 140737488355328)
    (hv : Lib.parseIntB 64 a.data.toList = .ok v) (hp : ∀ v, Lib.parseIntB 64 b.data.toList ≠ .ok v) :
    Calls Tryd.prog 27 #[.string s] w fun e w' => e = .returned (.tuple #[.agg #[.int .i64 0, .int .i64 0], .bool false]) ∧ Only (fun _ => False) w w' := by
  have CT := Lib.hid (fun W => cutD_yes s a b W hs h hz)
  have PA := Lib.hid (fun W => parse_okl a v W hv (by omega))
  have PB := Lib.hid (fun W (o : Only (fun _ => False) w W) => parse_err b W (hE.only o) hp (by omega))
  clear h hs hz haz hbz hp hE hv
  go_enter Tryd.func27, Tryd.ntmps27
  go_wp2_with (with_reducible refine wpl_alloc_all (o := ⟨some 2, _, _, _, _, _⟩) rfl _ rfl _ (zeroSig _) ?_; intro w1 h1 o1 s1; have A := Lib.hid h1; have O := Lib.hid o1; clear h1 o1 s1)
  refine (CT.out _).mono ?_
  rintro e wc2 ⟨rfl, oo⟩
  replace O := Lib.hid (O.out.trans oo (fun _ _ h => h))
  replace A := Lib.hid (A.out.only oo (fun h => h))
  clear oo
  go_wp2_with fail
  refine (PA.out _).mono ?_
  rintro e wc3 ⟨rfl, oo⟩
  replace O := Lib.hid (O.out.trans oo (fun _ _ h => h))
  replace A := Lib.hid (A.out.only oo (fun h => h))
  clear oo
  go_wp2_with fail
  refine (PB.out _ O.out).mono ?_
  rintro e we ⟨⟨vb, N, rfl⟩, oo⟩
  replace O := Lib.hid (O.out.trans oo (fun _ _ h => h))
  replace A := Lib.hid (A.out.only oo (fun h => h))
  clear oo
  replace O := Lib.hid (O.out.alloc (.cells [.int .i64 v, .int .i64 vb].toArray 51))
  replace A := Lib.hid (A.out.alloc (.cells [.int .i64 v, .int .i64 vb].toArray 51))
  have c0 := A.out.cell (i := 0) rfl
  have c1 := A.out.cell (i := 1) rfl
  have f0 := A.out.frozen 0
  have f1 := A.out.frozen 1
  go_wp2_with fail
  refine bodyPost_ret (results_cell_tmp rfl _ w.heap.size rfl 51 [.int .i64 0, .int .i64 0] _ ((A.out.put 0 (.int .i64 0)).put 1 (.int .i64 0)) Tryd.underlying51 rfl infoSig (.bool false) rfl) rfl ⟨rfl, ?_⟩
  exact (O.out.put (p := ⟨w.heap.size, 0, none⟩) (fun h => absurd h (Nat.lt_irrefl _)) _).put (p := ⟨w.heap.size, 1, none⟩) (fun h => absurd h (Nat.lt_irrefl _)) _
set_option maxRecDepth 100000 in
theorem sread_both (s a b : ByteArray) (v u : Int) (w : World) (ht : Tab w) (hs : s.data.toList = a.data.toList ++ 46 :: b.data.toList) (h : ∀ x ∈ a.data.toList, x ≠ 46) (hz : s.size ≤ 140737488355328) (haz : a.size ≤ 140737488355328) (hbz : b.size ≤ 140737488355328)
    (pv : Lib.parseIntB 64 a.data.toList = .ok v) (pu : Lib.parseIntB 64 b.data.toList = .ok u) :
    Calls Tryd.prog 27 #[.string s] w fun e w' => e = .returned (if txt v u = s.data.toList then .tuple #[.agg #[.int .i64 v, .int .i64 u], .bool true] else .tuple #[.agg #[.int .i64 0, .int .i64 0], .bool false]) ∧ Only (fun _ => False) w w' := by
  have A0 := Lib.hid (At.new w 51 [.int .i64 0, .int .i64 0])
  have O0 := Lib.hid ((Only.refl (fun _ => False) w).alloc (.cells [.int .i64 0, .int .i64 0].toArray 51))
  have CT := Lib.hid (fun W => cutD_yes s a b W hs h hz)
  have PA := Lib.hid (fun W => parse_okl a v W pv (by omega))
  have PB := Lib.hid (fun W => parse_okl b u W pu (by omega))
  have hv := parse_range pv
  have hu := parse_range pu
  obtain ⟨t, hte⟩ : ∃ t, t = ByteArray.mk (txt v u).toArray := ⟨_, rfl⟩
  have TX := Lib.hid (show ∀ W, Only (fun _ => False) w W → Calls Tryd.prog 26 #[.agg #[.int .i64 v, .int .i64 u]] W fun e w' => e = .returned (.string t) ∧ Only (fun _ => False) W w' from fun W o => by rw [hte]; exact text_any v u hv hu W (ht.only o))
  have HT := Lib.hid hte
  clear ht hs h hz haz hbz pv pu hv hu hte
  go_enter Tryd.func27, Tryd.ntmps27
  go_wp2_with fail
  refine (CT.out _).mono ?_
  rintro e w1 ⟨rfl, o1⟩
  have A1 := Lib.hid (A0.out.only o1 (fun h => h))
  have O1 := Lib.hid (O0.out.trans o1 (fun _ _ h => h))
  clear o1 A0 O0
  go_wp2_with fail
  refine (PA.out _).mono ?_
  rintro e w2 ⟨rfl, o2⟩
  have A2 := Lib.hid (A1.out.only o2 (fun h => h))
  have O2 := Lib.hid (O1.out.trans o2 (fun _ _ h => h))
  clear o2 A1 O1
  go_wp2_with fail
  refine (PB.out _).mono ?_
  rintro e w3 ⟨rfl, o3⟩
  have A3 := Lib.hid (A2.out.only o3 (fun h => h))
  have O3 := Lib.hid (O2.out.trans o3 (fun _ _ h => h))
  clear o3 A2 O2
  go_wp2_with fail
  have B3 := Lib.hid (At.new w3 51 [.int .i64 v, .int .i64 u])
  have o3' := (Only.refl (fun _ => False) w3).alloc (.cells [.int .i64 v, .int .i64 u].toArray 51)
  refine (TX.out _ (O3.out.trans o3' (fun _ _ h => h))).mono ?_
  rintro e w4 ⟨rfl, o4⟩
  have A4 := Lib.hid ((A3.out.only o3' (fun h => h)).only o4 (fun h => h))
  have B4 := Lib.hid (B3.out.only o4 (fun h => h))
  have O4 := Lib.hid ((O3.out.trans o3' (fun _ _ h => h)).trans o4 (fun _ _ h => h))
  have hne : w.heap.size ≠ w3.heap.size := by have := A3.out.lt; omega
  clear o4 o3' A3 B3 O3
  have c0 := A4.out.cell (i := 0) rfl
  have c1 := A4.out.cell (i := 1) rfl
  have f0 := A4.out.frozen 0
  have f1 := A4.out.frozen 1
  have d0 := B4.out.cell (i := 0) rfl
  have d1 := B4.out.cell (i := 1) rfl
  by_cases he : t = s
  · subst he
    have HE := Lib.hid (show txt v u = t.data.toList by rw [HT.out])
    go_wp2_with fail
    have hE : At _ w.heap.size 51 [.int .i64 v, .int .i64 u] := (A4.out.put 0 (.int .i64 v)).put 1 (.int .i64 u)
    refine bodyPost_ret (results_cell_tmp rfl _ w.heap.size rfl 51 [.int .i64 v, .int .i64 u] _ hE Tryd.underlying51 rfl infoSig (.bool true) rfl) rfl ⟨?_, ?_⟩
    · first | rw [if_pos HE.out] | rfl
    · exact (O4.out.put (p := ⟨w.heap.size, 0, none⟩) (fun h => absurd h (Nat.lt_irrefl _)) _).put (p := ⟨w.heap.size, 1, none⟩) (fun h => absurd h (Nat.lt_irrefl _)) _
  · have HE := Lib.hid (show ¬ txt v u = s.data.toList from fun h => he (by rw [HT.out, h]))
    have hb : (t.toList == s.toList) = false := by
      rw [beq_eq_false_iff_ne, ByteArray.toList_eq, ByteArray.toList_eq]
      exact fun h => he (ByteArray.ext (Array.toList_inj.1 h))
    go_wp2_with fail
    have hE : At _ w.heap.size 51 [.int .i64 0, .int .i64 0] := (A4.out.put 0 (.int .i64 0)).put 1 (.int .i64 0)
    refine bodyPost_ret (results_cell_tmp rfl _ w.heap.size rfl 51 [.int .i64 0, .int .i64 0] _ hE Tryd.underlying51 rfl infoSig (.bool false) rfl) rfl ⟨?_, ?_⟩
    · first | rw [if_neg HE.out] | rfl
    · exact (O4.out.put (p := ⟨w.heap.size, 0, none⟩) (fun h => absurd h (Nat.lt_irrefl _)) _).put (p := ⟨w.heap.size, 1, none⟩) (fun h => absurd h (Nat.lt_irrefl _)) _
/-- a text parts at its first dot, with its pieces as strings -/
theorem dot_bytes (s : ByteArray) : (∀ x ∈ s.data.toList, x ≠ 46) ∨ ∃ a b : ByteArray, s.data.toList = a.data.toList ++ 46 :: b.data.toList ∧ (∀ x ∈ a.data.toList, x ≠ 46) ∧ a.size ≤ s.size ∧ b.size ≤ s.size := by
  rcases dot_cases s.data.toList with h | ⟨a, b, h1, h2⟩
  · exact .inl h
  · refine .inr ⟨⟨a.toArray⟩, ⟨b.toArray⟩, h1, h2, ?_, ?_⟩
    all_goals
      have e1 : s.data.toList.length = s.size := Array.length_toList
      have := congrArg List.length h1
      rw [List.length_append, List.length_cons] at this
      show (List.toArray _).size ≤ _
      rw [List.size_toArray]
      omega
theorem sread_any (s : ByteArray) (v u : Int) (b : Bool) (w : World) (h : Rd s.data.toList v u b) (ht : Tab w) (hE : ErrV w) (hz : s.size ≤ 140737488355328) :
    Calls Tryd.prog 27 #[.string s] w fun e w' => e = .returned (.tuple #[.agg #[.int .i64 v, .int .i64 u], .bool b]) ∧ Only (fun _ => False) w w' := by
  rcases dot_bytes s with hd | ⟨x, y, hs, hx, hxz, hyz⟩
  · rcases h with ⟨_, h⟩ | ⟨rfl, rfl, rfl, _⟩
    · exact absurd h (rd_dotless hd _ _)
    · exact sread_dotless s w hd
  · by_cases hp : ∃ p, Lib.parseIntB 64 x.data.toList = .ok p
    · obtain ⟨p, hp⟩ := hp
      by_cases hq : ∃ q, Lib.parseIntB 64 y.data.toList = .ok q
      · obtain ⟨q, hq⟩ := hq
        refine (sread_both s x y p q w ht hs hx hz (by omega) (by omega) hp hq).mono ?_
        rintro e w' ⟨rfl, o⟩
        refine ⟨?_, o⟩
        by_cases he : txt p q = s.data.toList
        · rw [if_pos he]
          have := h.uniq (.inl ⟨rfl, parse_range hp, parse_range hq, he.symm⟩)
          rw [this.1, this.2.1, this.2.2]
        · rw [if_neg he]
          rcases h with ⟨_, h⟩ | ⟨rfl, rfl, rfl, _⟩
          · exfalso
            have hn := (rd_nums hx).1 (hs ▸ h)
            have e1 := parse_isNum hn.1
            have e2 := parse_isNum hn.2
            rw [hp] at e1
            rw [hq] at e2
            injection e1 with e1
            injection e2 with e2
            exact he (by rw [e1, e2, h.2.2])
          · rfl
      · have hb : b = false ∧ v = 0 ∧ u = 0 := by
          rcases h with ⟨_, h⟩ | ⟨h1, h2, h3, _⟩
          · exact absurd ⟨u, parse_isNum ((rd_nums hx).1 (hs ▸ h)).2⟩ hq
          · exact ⟨h1, h2, h3⟩
        obtain ⟨rfl, rfl, rfl⟩ := hb
        exact sread_second s x y p w hE hs hx hz (by omega) (by omega) hp (fun q h => hq ⟨q, h⟩)
    · have hb : b = false ∧ v = 0 ∧ u = 0 := by
        rcases h with ⟨_, h⟩ | ⟨h1, h2, h3, _⟩
        · exact absurd ⟨v, parse_isNum ((rd_nums hx).1 (hs ▸ h)).1⟩ hp
        · exact ⟨h1, h2, h3⟩
      obtain ⟨rfl, rfl, rfl⟩ := hb
      exact sread_first s x y w hE hs hx hz (by omega) (by omega) (fun q h => hp ⟨q, h⟩)
end Go.Proofs.YtoekhpnapnhefaaDoor

namespace Go.Proofs.YtoekhpnapnhefaaDoor
open Go.ChangeShapes Go.WideShapes Go.ChangeAt Go.RowKit
set_option linter.unusedVariables false
set_option linter.unusedSimpArgs false

theorem u8_wf {n : Int} (h : (Lit.int .u8 n).wf = true) : 0 ≤ n ∧ n ≤ 255 := by
  simpa [Lit.wf, IntKind.min, IntKind.max, IntKind.signed, IntKind.bits] using h
theorem u16_wf {n : Int} (h : (Lit.int .u16 n).wf = true) : 0 ≤ n ∧ n ≤ 65535 := by
  simpa [Lit.wf, IntKind.min, IntKind.max, IntKind.signed, IntKind.bits] using h
def U8 (n : Int) : Prop := 0 ≤ n ∧ n ≤ 255
def edTy : Ty := .st [.str, .int .i64, .int .u8]
theorem ed_arg {W : World} {x : edTy.Val} {c : List Value} {v : Value} (h : Holds W edTy x c) (hv : IsV edTy c v) :
    v = .agg #[.string x.1, .int .i64 x.2.1, .int .u8 x.2.2.1] ∧ I64 x.2.1 ∧ U8 x.2.2.1 := by
  obtain ⟨⟨h0, _⟩, ⟨h1, k1⟩, ⟨h2, k2⟩, h5⟩ := h
  have e0 := cons_of_take h0
  have e1 := cons_of_take h1
  have e2 := cons_of_take h2
  simp only [Ty.size] at e0 e1 e2 h5
  have hv' : v = .agg c.toArray := hv
  rw [h5] at e2
  rw [e2] at e1
  rw [e1] at e0
  exact ⟨by rw [hv', e0], i64_wf' k1, u8_wf k2⟩
theorem ed_small {x : edTy.Val} (h : SmallV edTy x) : x.1.size ≤ reachBytes := h.1
def prTy : Ty := .st [.int .i64, .int .i64]
theorem pr_arg {W : World} {x : prTy.Val} {c : List Value} {v : Value} (h : Holds W prTy x c) (hv : IsV prTy c v) :
    v = .agg #[.int .i64 x.1, .int .i64 x.2.1] ∧ I64 x.1 ∧ I64 x.2.1 := by
  obtain ⟨⟨h0, k0⟩, ⟨h1, k1⟩, h5⟩ := h
  have e0 := cons_of_take h0
  have e1 := cons_of_take h1
  simp only [Ty.size] at e0 e1 h5
  have hv' : v = .agg c.toArray := hv
  rw [h5] at e1
  rw [e1] at e0
  exact ⟨by rw [hv', e0], i64_wf' k0, i64_wf' k1⟩
theorem two16_arg {W : World} {L : (Ty.arr 2 (.int .u16)).Val} {c : List Value} {v : Value} (h : Holds W (.arr 2 (.int .u16)) L c) (hv : IsV (.arr 2 (.int .u16)) c v) : ∃ a b : Int, v = .agg #[.int .u16 a, .int .u16 b] ∧ (0 ≤ a ∧ a ≤ 65535) ∧ (0 ≤ b ∧ b ≤ 65535) := by
  obtain ⟨h0, h2, h3⟩ := h
  have h1 : List.length (α := Int) L = 2 := h0
  clear h0
  match L, h1, h3 with
  | [a, b], _, h3 =>
    obtain ⟨g1, k1⟩ := h3 0 a rfl
    obtain ⟨g2, k2⟩ := h3 1 b rfl
    simp only [Ty.size] at g1 g2 h2
    refine ⟨a, b, ?_, u16_wf k1, u16_wf k2⟩
    have hv' : v = .agg c.toArray := hv
    match c, h2 with
    | [x, y], _ =>
      simp at g1 g2
      rw [hv', g1, g2]
theorem gErrS : Tryd.prog.globalNamed "strconv.ErrSyntax" = some 3 := by kernel_rfl
theorem gErrR : Tryd.prog.globalNamed "strconv.ErrRange" = some 4 := by kernel_rfl
theorem gErrST : (Tryd.prog.globals[3]?).map (·.type) = some 83 := by kernel_rfl
theorem gErrRT : (Tryd.prog.globals[4]?).map (·.type) = some 83 := by kernel_rfl
theorem starErr : "*" ++ "errors.errorString" = "*errors.errorString" := by decide
theorem rowErr (u : TypeId) (h : Tryd.prog.typeName? 3 u = some "*errors.errorString") : u = 178 :=
  typeName_ptr_named (nm := "errors.errorString") (by rw [starErr]; kernel_rfl) (by kernel_rfl) (by decide) u (by rw [starErr]; exact h)
theorem cellsES : Tryd.prog.cellsOf 180 = 1 := by kernel_rfl
theorem cellsSt : Tryd.prog.cellsOf 9 = 1 := by kernel_rfl
theorem errV_of {W : World} (h : laidMetH Tryd.prog laid5 W) : ErrV W := by
  have h' : laidMet Tryd.prog laid5 W := h
  have h3 := (laidMet.tail (laidMet.tail (laidMet.tail h')))
  have h4 := laidMet.tail h3
  obtain ⟨a, s, hv, _, _, _⟩ := laid_sentinel h4 gErrS gErrST Tryd.underlying83 rowErr Tryd.underlying178 Tryd.underlying180 rfl rfl Tryd.underlying9 cellsES cellsSt
  obtain ⟨a2, s2, hv2, _, _, _⟩ := laid_sentinel h3 gErrR gErrRT Tryd.underlying83 rowErr Tryd.underlying178 Tryd.underlying180 rfl rfl Tryd.underlying9 cellsES cellsSt
  exact ⟨⟨_, _, hv⟩, ⟨_, _, hv2⟩⟩
end Go.Proofs.YtoekhpnapnhefaaDoor
