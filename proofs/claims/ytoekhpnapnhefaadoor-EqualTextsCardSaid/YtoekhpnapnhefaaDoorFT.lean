/-
  strconv.Atoi's errors, equal.Read at any text: contracts.
  sortesref06: number: contract (printed by tools/gen_num.py).
  sortesref06: Text, Read: contracts (printed by tools/gen_num.py).
  EqualTexts: walk.
  Proved: sorteslaw06.EqualTexts returns true for every proof, every text and every change, never panics, and leaves its arguments as they were. Conditions: those of the given row (what the row's variables hold is what their initialisers lay; strings take at most the bytes that the row allows).
-/
import Derived.Shelf.Strconv.ErrVarAll
import Derived.Test.YtoekhpnapnhefaaDoorMK
import Derived.Test.YtoekhpnapnhefaaDoorMF
import Derived.Test.YtoekhpnapnhefaaDoorML
import Derived.Test.YtoekhpnapnhefaaDoorMA
import Derived.Test.YtoekhpnapnhefaaDoorME
namespace Go.Proofs.YtoekhpnapnhefaaDoor
open Go.RowKit Go.Shelf
set_option linter.unusedVariables false
set_option linter.unusedSimpArgs false

theorem atoi_err (s : ByteArray) (w : World) (hE : ErrV w) (h : ∀ v, Lib.atoiAll s.data.toList ≠ .ok v) (hs : s.size ≤ 281474976710656) :
    Calls Tryd.prog 61 #[.string s] w fun e w' => (∃ v N, e = .returned (.tuple #[.int .i64 v, .iface 138 (.pointer (some ⟨N, 0, none⟩))])) ∧ Only (fun _ => False) w w' := by
  obtain ⟨⟨t, p, h1⟩, ⟨u, q, h2⟩⟩ := hE
  have fin : ∀ e w', (∃ v N, e = Ending.returned (.tuple #[.int .i64 v, .iface 138 (.pointer (some ⟨N, 0, none⟩))])) → Below w.heap.size w w' → (∃ v N, e = .returned (.tuple #[.int .i64 v, .iface 138 (.pointer (some ⟨N, 0, none⟩))])) ∧ Only (fun _ => False) w w' := fun e w' h b => ⟨h, Only.of_below b (fun i h1 h2 => by omega)⟩
  cases hp : Lib.atoiAll s.data.toList
  case ok v => exact absurd hp (h v)
  all_goals first
    | exact (Any.strconv_Atoi_syntax_var Tryd.laysC172_b s hs hp t p w h1).mono (fun e w' h => by obtain ⟨N, h3, _, _, h4⟩ := h; exact fin e w' ⟨_, N, h3⟩ h4)
    | exact (Any.strconv_Atoi_range_var Tryd.laysC172_b s hs hp u q w h2).mono (fun e w' h => by obtain ⟨N, h3, _, _, h4⟩ := h; exact fin e w' ⟨_, N, h3⟩ h4)
theorem atoi_okl (s : ByteArray) (v : Int) (w : World) (h : Lib.atoiAll s.data.toList = .ok v) (hs : s.size ≤ 281474976710656) :
    Calls Tryd.prog 61 #[.string s] w fun e w' => e = .returned (.tuple #[.int .i64 v, .nilIface]) ∧ Only (fun _ => False) w w' := atoi_any s v w h (by omega)
/-- Atoi, whatever it answers -/
theorem atoi_gen (s : ByteArray) (w : World) (hE : ErrV w) (hs : s.size ≤ 281474976710656) :
    Calls Tryd.prog 61 #[.string s] w fun e w' => (∃ v ev, e = .returned (.tuple #[.int .i64 v, ev])) ∧ Only (fun _ => False) w w' := by
  by_cases h : ∃ v, Lib.atoiAll s.data.toList = .ok v
  · obtain ⟨v, h⟩ := h
    exact (atoi_okl s v w h hs).mono fun e w' h => ⟨⟨v, _, h.1⟩, h.2⟩
  · exact (atoi_err s w hE (fun v hv => h ⟨v, hv⟩) hs).mono fun e w' h => by
      obtain ⟨⟨v, N, h1⟩, h2⟩ := h
      exact ⟨⟨v, _, h1⟩, h2⟩
set_option maxRecDepth 100000 in
theorem eread_first (s a b : ByteArray) (w : World) (hE : ErrV w) (f : Bool) (CTT : ∀ W, Calls Tryd.prog 55 #[.string s, .string ⟨#[46]⟩] W fun e w' => e = .returned (.tuple #[.string a, .string b, .bool f]) ∧ Only (fun _ => False) W w') (haz : a.size ≤ 140737488355328) (hbz : b.size ≤ 140737488355328)
    (hp : ∀ v, Lib.atoiAll a.data.toList ≠ .ok v) :
    Calls Tryd.prog 32 #[.string s] w fun e w' => e = .returned (.tuple #[.agg #[.int .i64 0, .int .i64 0], .bool false]) ∧ Only (fun _ => False) w w' := by
  have CT := Lib.hid CTT
  have PA := Lib.hid (fun W (o : Only (fun _ => False) w W) => atoi_err a W (hE.only o) hp (by omega))
  have PB := Lib.hid (fun W (o : Only (fun _ => False) w W) => atoi_gen b W (hE.only o) (by omega))
  clear CTT haz hbz hp hE
  go_enter Tryd.func32, Tryd.ntmps32
  go_wp2_with (with_reducible refine wpl_alloc_all (o := ⟨some 2, _, _, _, _, _⟩) rfl _ rfl _ (zeroP _) ?_; intro w1 h1 o1 s1; have A := Lib.hid h1; have O := Lib.hid o1; clear h1 o1 s1)
  refine (CT.out _).mono ?_
  rintro e wc1 ⟨rfl, oo⟩
  replace O := Lib.hid (O.out.trans oo (fun _ _ h => h))
  replace A := Lib.hid (A.out.only oo (fun h => h))
  clear oo
  go_wp2_with fail
  refine (PA.out _ O.out).mono ?_
  rintro e wd ⟨⟨va, N, rfl⟩, oo⟩
  replace O := Lib.hid (O.out.trans oo (fun _ _ h => h))
  replace A := Lib.hid (A.out.only oo (fun h => h))
  clear oo
  go_wp2_with fail
  refine (PB.out _ O.out).mono ?_
  rintro e we ⟨⟨vb, eb, rfl⟩, oo⟩
  replace O := Lib.hid (O.out.trans oo (fun _ _ h => h))
  replace A := Lib.hid (A.out.only oo (fun h => h))
  clear oo
  replace O := Lib.hid (O.out.alloc (.cells [.int .i64 va, .int .i64 vb].toArray 58))
  replace A := Lib.hid (A.out.alloc (.cells [.int .i64 va, .int .i64 vb].toArray 58))
  have c0 := A.out.cell (i := 0) rfl
  have c1 := A.out.cell (i := 1) rfl
  have f0 := A.out.frozen 0
  have f1 := A.out.frozen 1
  go_wp2_with fail
  refine bodyPost_ret (results_cell_tmp rfl _ w.heap.size rfl 58 [.int .i64 0, .int .i64 0] _ ((A.out.put 0 (.int .i64 0)).put 1 (.int .i64 0)) Tryd.underlying58 rfl infoProof (.bool false) rfl) rfl ⟨rfl, ?_⟩
  exact (O.out.put (p := ⟨w.heap.size, 0, none⟩) (fun h => absurd h (Nat.lt_irrefl _)) _).put (p := ⟨w.heap.size, 1, none⟩) (fun h => absurd h (Nat.lt_irrefl _)) _
set_option maxRecDepth 100000 in
theorem eread_second (s a b : ByteArray) (v : Int) (w : World) (hE : ErrV w) (f : Bool) (CTT : ∀ W, Calls Tryd.prog 55 #[.string s, .string ⟨#[46]⟩] W fun e w' => e = .returned (.tuple #[.string a, .string b, .bool f]) ∧ Only (fun _ => False) W w') (haz : a.size ≤ 140737488355328) (hbz : b.size ≤ 140737488355328)
    (hv : Lib.atoiAll a.data.toList = .ok v) (hp : ∀ v, Lib.atoiAll b.data.toList ≠ .ok v) :
    Calls Tryd.prog 32 #[.string s] w fun e w' => e = .returned (.tuple #[.agg #[.int .i64 0, .int .i64 0], .bool false]) ∧ Only (fun _ => False) w w' := by
  have CT := Lib.hid CTT
  have PA := Lib.hid (fun W => atoi_okl a v W hv (by omega))
  have PB := Lib.hid (fun W (o : Only (fun _ => False) w W) => atoi_err b W (hE.only o) hp (by omega))
  clear CTT haz hbz hp hE hv
  go_enter Tryd.func32, Tryd.ntmps32
  go_wp2_with (with_reducible refine wpl_alloc_all (o := ⟨some 2, _, _, _, _, _⟩) rfl _ rfl _ (zeroP _) ?_; intro w1 h1 o1 s1; have A := Lib.hid h1; have O := Lib.hid o1; clear h1 o1 s1)
  refine (CT.out _).mono ?_
  rintro e wc2 ⟨rfl, oo⟩
  replace O := Lib.hid (O.out.trans oo (fun _ _ h => h))
  replace A := Lib.hid (A.out.only oo (fun h => h))
  clear oo
  go_wp2_with fail
  refine (PA.out _).mono ?_
  rintro e wc3 ⟨rfl, oo⟩
  replace O := Lib.hid (O.out.trans oo (fun _ _ h => h))
  replace A := Lib.hid (A.out.only oo (fun h => h))
  clear oo
  go_wp2_with fail
  refine (PB.out _ O.out).mono ?_
  rintro e we ⟨⟨vb, N, rfl⟩, oo⟩
  replace O := Lib.hid (O.out.trans oo (fun _ _ h => h))
  replace A := Lib.hid (A.out.only oo (fun h => h))
  clear oo
  replace O := Lib.hid (O.out.alloc (.cells [.int .i64 v, .int .i64 vb].toArray 58))
  replace A := Lib.hid (A.out.alloc (.cells [.int .i64 v, .int .i64 vb].toArray 58))
  have c0 := A.out.cell (i := 0) rfl
  have c1 := A.out.cell (i := 1) rfl
  have f0 := A.out.frozen 0
  have f1 := A.out.frozen 1
  go_wp2_with fail
  refine bodyPost_ret (results_cell_tmp rfl _ w.heap.size rfl 58 [.int .i64 0, .int .i64 0] _ ((A.out.put 0 (.int .i64 0)).put 1 (.int .i64 0)) Tryd.underlying58 rfl infoProof (.bool false) rfl) rfl ⟨rfl, ?_⟩
  exact (O.out.put (p := ⟨w.heap.size, 0, none⟩) (fun h => absurd h (Nat.lt_irrefl _)) _).put (p := ⟨w.heap.size, 1, none⟩) (fun h => absurd h (Nat.lt_irrefl _)) _
set_option maxRecDepth 100000 in
theorem eread_both (s a b : ByteArray) (v u : Int) (w : World) (ht : Tab w) (f : Bool) (CTT : ∀ W, Calls Tryd.prog 55 #[.string s, .string ⟨#[46]⟩] W fun e w' => e = .returned (.tuple #[.string a, .string b, .bool f]) ∧ Only (fun _ => False) W w') (haz : a.size ≤ 140737488355328) (hbz : b.size ≤ 140737488355328)
    (pv : Lib.atoiAll a.data.toList = .ok v) (pu : Lib.atoiAll b.data.toList = .ok u) :
    Calls Tryd.prog 32 #[.string s] w fun e w' => e = .returned (if txt v u = s.data.toList then .tuple #[.agg #[.int .i64 v, .int .i64 u], .bool true] else .tuple #[.agg #[.int .i64 0, .int .i64 0], .bool false]) ∧ Only (fun _ => False) w w' := by
  have A0 := Lib.hid (At.new w 58 [.int .i64 0, .int .i64 0])
  have O0 := Lib.hid ((Only.refl (fun _ => False) w).alloc (.cells [.int .i64 0, .int .i64 0].toArray 58))
  have CT := Lib.hid CTT
  have PA := Lib.hid (fun W => atoi_okl a v W pv (by omega))
  have PB := Lib.hid (fun W => atoi_okl b u W pu (by omega))
  have hv := atoi_range pv
  have hu := atoi_range pu
  obtain ⟨t, hte⟩ : ∃ t, t = ByteArray.mk (txt v u).toArray := ⟨_, rfl⟩
  have TX := Lib.hid (show ∀ W, Only (fun _ => False) w W → Calls Tryd.prog 31 #[.agg #[.int .i64 v, .int .i64 u]] W fun e w' => e = .returned (.string t) ∧ Only (fun _ => False) W w' from fun W o => by rw [hte]; exact etext_any v u hv hu W (ht.only o))
  have HT := Lib.hid hte
  clear ht CTT haz hbz pv pu hv hu hte
  go_enter Tryd.func32, Tryd.ntmps32
  go_wp2_with fail
  refine (CT.out _).mono ?_
  rintro e w1 ⟨rfl, o1⟩
  have A1 := Lib.hid (A0.out.only o1 (fun h => h))
  have O1 := Lib.hid (O0.out.trans o1 (fun _ _ h => h))
  clear o1 A0 O0
  go_wp2_with fail
  refine (PA.out _).mono ?_
  rintro e w2 ⟨rfl, o2⟩
  have A2 := Lib.hid (A1.out.only o2 (fun h => h))
  have O2 := Lib.hid (O1.out.trans o2 (fun _ _ h => h))
  clear o2 A1 O1
  go_wp2_with fail
  refine (PB.out _).mono ?_
  rintro e w3 ⟨rfl, o3⟩
  have A3 := Lib.hid (A2.out.only o3 (fun h => h))
  have O3 := Lib.hid (O2.out.trans o3 (fun _ _ h => h))
  clear o3 A2 O2
  go_wp2_with fail
  have B3 := Lib.hid (At.new w3 58 [.int .i64 v, .int .i64 u])
  have o3' := (Only.refl (fun _ => False) w3).alloc (.cells [.int .i64 v, .int .i64 u].toArray 58)
  refine (TX.out _ (O3.out.trans o3' (fun _ _ h => h))).mono ?_
  rintro e w4 ⟨rfl, o4⟩
  have A4 := Lib.hid ((A3.out.only o3' (fun h => h)).only o4 (fun h => h))
  have B4 := Lib.hid (B3.out.only o4 (fun h => h))
  have O4 := Lib.hid ((O3.out.trans o3' (fun _ _ h => h)).trans o4 (fun _ _ h => h))
  have hne : w.heap.size ≠ w3.heap.size := by have := A3.out.lt; omega
  clear o4 o3' A3 B3 O3
  have c0 := A4.out.cell (i := 0) rfl
  have c1 := A4.out.cell (i := 1) rfl
  have f0 := A4.out.frozen 0
  have f1 := A4.out.frozen 1
  have d0 := B4.out.cell (i := 0) rfl
  have d1 := B4.out.cell (i := 1) rfl
  by_cases he : t = s
  · subst he
    have HE := Lib.hid (show txt v u = t.data.toList by rw [HT.out])
    go_wp2_with fail
    have hE : At _ w.heap.size 58 [.int .i64 v, .int .i64 u] := (A4.out.put 0 (.int .i64 v)).put 1 (.int .i64 u)
    refine bodyPost_ret (results_cell_tmp rfl _ w.heap.size rfl 58 [.int .i64 v, .int .i64 u] _ hE Tryd.underlying58 rfl infoProof (.bool true) rfl) rfl ⟨?_, ?_⟩
    · first | rw [if_pos HE.out] | rfl
    · exact (O4.out.put (p := ⟨w.heap.size, 0, none⟩) (fun h => absurd h (Nat.lt_irrefl _)) _).put (p := ⟨w.heap.size, 1, none⟩) (fun h => absurd h (Nat.lt_irrefl _)) _
  · have HE := Lib.hid (show ¬ txt v u = s.data.toList from fun h => he (by rw [HT.out, h]))
    have hb : (t.toList == s.toList) = false := by
      rw [beq_eq_false_iff_ne, ByteArray.toList_eq, ByteArray.toList_eq]
      exact fun h => he (ByteArray.ext (Array.toList_inj.1 h))
    go_wp2_with fail
    have hE : At _ w.heap.size 58 [.int .i64 0, .int .i64 0] := (A4.out.put 0 (.int .i64 0)).put 1 (.int .i64 0)
    refine bodyPost_ret (results_cell_tmp rfl _ w.heap.size rfl 58 [.int .i64 0, .int .i64 0] _ hE Tryd.underlying58 rfl infoProof (.bool false) rfl) rfl ⟨?_, ?_⟩
    · first | rw [if_neg HE.out] | rfl
    · exact (O4.out.put (p := ⟨w.heap.size, 0, none⟩) (fun h => absurd h (Nat.lt_irrefl _)) _).put (p := ⟨w.heap.size, 1, none⟩) (fun h => absurd h (Nat.lt_irrefl _)) _
theorem atoi_empty : ∀ v, Lib.atoiAll (ByteArray.mk #[]).data.toList ≠ .ok v := fun v h => by
  have : Lib.atoiAll [] = .ok v := h
  unfold Lib.atoiAll at this
  cases this
theorem eread_any2 (s : ByteArray) (v u : Int) (b : Bool) (w : World) (h : Rd s.data.toList v u b) (ht : Tab w) (hE : ErrV w) (hz : s.size ≤ 140737488355328) :
    Calls Tryd.prog 32 #[.string s] w fun e w' => e = .returned (.tuple #[.agg #[.int .i64 v, .int .i64 u], .bool b]) ∧ Only (fun _ => False) w w' := by
  rcases dot_bytes s with hd | ⟨x, y, hs, hx, hxz, hyz⟩
  · rcases h with ⟨_, h⟩ | ⟨rfl, rfl, rfl, _⟩
    · exact absurd h (rd_dotless hd _ _)
    · by_cases hp : ∃ p, Lib.atoiAll s.data.toList = .ok p
      · obtain ⟨p, hp⟩ := hp
        exact eread_second s s ⟨#[]⟩ p w hE false (fun W => cutD_no s W hd) (by omega) (by decide) hp atoi_empty
      · exact eread_first s s ⟨#[]⟩ w hE false (fun W => cutD_no s W hd) (by omega) (by decide) (fun q h => hp ⟨q, h⟩)
  · have CT := fun W => cutD_yes s x y W hs hx hz
    by_cases hp : ∃ p, Lib.atoiAll x.data.toList = .ok p
    · obtain ⟨p, hp⟩ := hp
      by_cases hq : ∃ q, Lib.atoiAll y.data.toList = .ok q
      · obtain ⟨q, hq⟩ := hq
        refine (eread_both s x y p q w ht true CT (by omega) (by omega) hp hq).mono ?_
        rintro e w' ⟨rfl, o⟩
        refine ⟨?_, o⟩
        by_cases he : txt p q = s.data.toList
        · rw [if_pos he]
          have := h.uniq (.inl ⟨rfl, atoi_range hp, atoi_range hq, he.symm⟩)
          rw [this.1, this.2.1, this.2.2]
        · rw [if_neg he]
          rcases h with ⟨_, h⟩ | ⟨rfl, rfl, rfl, _⟩
          · exfalso
            have hn := (rd_nums hx).1 (hs ▸ h)
            have e1 := atoi_isNum hn.1
            have e2 := atoi_isNum hn.2
            rw [hp] at e1
            rw [hq] at e2
            injection e1 with e1
            injection e2 with e2
            exact he (by rw [e1, e2, h.2.2])
          · rfl
      · have hb : b = false ∧ v = 0 ∧ u = 0 := by
          rcases h with ⟨_, h⟩ | ⟨h1, h2, h3, _⟩
          · exact absurd ⟨u, atoi_isNum ((rd_nums hx).1 (hs ▸ h)).2⟩ hq
          · exact ⟨h1, h2, h3⟩
        obtain ⟨rfl, rfl, rfl⟩ := hb
        exact eread_second s x y p w hE true CT (by omega) (by omega) hp (fun q h => hq ⟨q, h⟩)
    · have hb : b = false ∧ v = 0 ∧ u = 0 := by
        rcases h with ⟨_, h⟩ | ⟨h1, h2, h3, _⟩
        · exact absurd ⟨v, atoi_isNum ((rd_nums hx).1 (hs ▸ h)).1⟩ hp
        · exact ⟨h1, h2, h3⟩
      obtain ⟨rfl, rfl, rfl⟩ := hb
      exact eread_first s x y w hE true CT (by omega) (by omega) (fun q h => hp ⟨q, h⟩)
end Go.Proofs.YtoekhpnapnhefaaDoor

namespace Go.Proofs.YtoekhpnapnhefaaDoor
open Go.RowKit Go.Shelf
set_option linter.unusedVariables false
set_option linter.unusedSimpArgs false

set_option maxRecDepth 100000 in
set_option maxHeartbeats 4000000 in
theorem rnum6_any (s : ByteArray) (w : World) (hs : s.size ≤ 140737488355328) :
    Calls Tryd.prog 63 #[.string s] w fun e w' => NumOut s.data.toList e ∧ Only (fun _ => False) w w' := by
  have hb := bAt_get s
  have HL := Lib.hid (show s.data.toList.length = s.size from Array.length_toList)
  rcases Nat.eq_zero_or_pos s.size with h0 | h0
  · have BAD := Lib.hid (show ∀ m, ¬ IsNum s.data.toList m from fun m h => by
      have := (num_len h).1
      rw [HL.out] at this
      omega)
    have hsz : (s.size : Int) = 0 := by omega
    clear h0
    go_enter Tryd.func63, Tryd.ntmps63
    go_wp2_with fail
    refine bodyPost_ret (results_tmp2 rfl _ _ _) rfl ⟨⟨0, false, rfl, ans_no BAD.out⟩, Only.refl _ _⟩
  · have hp : (0 : Int) < (s.size : Int) := by omega
    have HA0 := Lib.hid (atM_bytes (s := s) h0)
    by_cases hm : bAt s 0 = 45
    · have HA : Hid (atM s.data.toList = 1) := Lib.hid (by rw [HA0.out, if_pos hm])
      by_cases h1 : s.size = 1
      · have BAD := Lib.hid (show ∀ m, ¬ IsNum s.data.toList m from fun m h => by
          have := (num_len h).1
          rw [HL.out, HA.out] at this
          omega)
        have hsz : (s.size : Int) = 1 := by omega
        clear h0 h1
        go_enter Tryd.func63, Tryd.ntmps63
        go_wp2_with fail
        refine bodyPost_ret (results_tmp2 rfl _ _ _) rfl ⟨⟨0, false, rfl, ans_no BAD.out⟩, Only.refl _ _⟩
      · by_cases h20 : s.size ≤ 20
        · have q1 : (1 : Int) < (s.size : Int) := by omega
          have q1' : ((1 : Int) == (s.size : Int)) = false := by rw [beq_eq_false_iff_ne]; omega
          have q2 : (s.size : Int) ≤ 20 := by omega
          go_enter Tryd.func63, Tryd.ntmps63
          go_wp2_with fail
          go_loop [2, 3, 5, 6] (fun _ _ nv kv => ∃ (k : Nat) (N : Int), 1 ≤ k ∧ k ≤ s.size ∧ kv = .int .i64 k ∧ nv = .int .i64 N ∧ I64 N ∧ Hid (N = IntKind.i64.wrap (-(valD ((s.data.toList.take k).drop 1) : Int))) ∧ Hid (∀ x ∈ (s.data.toList.take k).drop 1, IsDig x)) (fun _ _ _ kv => s.size - (intOf kv).toNat)
          case atStart => exact ⟨1, 0, Nat.le_refl _, by omega, rfl, rfl, by unfold I64; omega, Lib.hid (by rw [List.drop_of_length_le (by rw [List.length_take]; omega)]; decide), Lib.hid (by rw [List.drop_of_length_le (by rw [List.length_take]; omega)]; intro x hx; cases hx)⟩
          case round =>
            obtain ⟨k, N, hk1, hk2, rfl, rfl, hN, HN, HD⟩ := hrel
            by_cases hlt : k < s.size
            · have r0 := bAt_range s k
              have EB := Lib.hid (show bAt s k = (s.data.toList.getD k 0).toNat from rfl)
              have TS := Lib.hid (take_drop_snoc s.data.toList 1 k hk1 (by rw [HL.out]; exact hlt))
              have MEM := Lib.hid (show s.data.toList.getD k 0 ∈ s.data.toList.drop 1 from getD_in_drop hk1 (by rw [HL.out]; exact hlt))
              have i1 : (k : Int) < (s.size : Int) := by omega
              by_cases hd : 48 ≤ bAt s k ∧ bAt s k ≤ 57
              · have hd1 := hd.1
                have hd2 := hd.2
                have ND := Lib.hid (show ∀ x ∈ (s.data.toList.take (k + 1)).drop 1, IsDig x from fun x hx => by
                  rw [TS.out] at hx
                  rcases List.mem_append.1 hx with h | h
                  · exact HD.out x h
                  · rw [List.mem_singleton] at h; subst h; unfold IsDig; have := EB.out; omega)
                obtain ⟨N1, e1⟩ : ∃ N1, IntKind.i64.wrap (10 * N) = N1 := ⟨_, rfl⟩
                obtain ⟨N2, e2⟩ : ∃ N2, IntKind.i64.wrap (N1 - (bAt s k - 48)) = N2 := ⟨_, rfl⟩
                have NN := Lib.hid (show N2 = IntKind.i64.wrap (-(valD ((s.data.toList.take (k + 1)).drop 1) : Int)) by
                  rw [TS.out, valD_snoc, ← e2, ← e1, HN.out, neg_step]
                  congr 1
                  have := EB.out
                  omega)
                have w1 := wrap_range (N1 - (bAt s k - 48))
                rw [e2] at w1
                clear hd
                go_wp2_with fail
                go_round
                case rel => exact ⟨k + 1, N2, by omega, by omega, by go_num, rfl, w1, NN, ND⟩
                case measure => simp [intOf]; omega
              · have BAD := Lib.hid (show ∀ m, ¬ IsNum s.data.toList m from fun m h => by
                  have := (num_len h).2.2.1 _ (by rw [HA.out]; exact MEM.out)
                  unfold IsDig at this
                  have := EB.out
                  omega)
                by_cases hd1 : bAt s k < 48
                · clear hd
                  go_wp2_with fail
                  refine bodyPost_ret (results_tmp2 rfl _ _ _) rfl ⟨⟨0, false, rfl, ans_no BAD.out⟩, Only.refl _ _⟩
                · have hd2 : 57 < bAt s k := by omega
                  clear hd
                  go_wp2_with fail
                  refine bodyPost_ret (results_tmp2 rfl _ _ _) rfl ⟨⟨0, false, rfl, ans_no BAD.out⟩, Only.refl _ _⟩
            · obtain rfl : k = s.size := by omega
              have HF := HN.out
              rw [List.take_of_length_le (by rw [HL.out]; exact Nat.le_refl _)] at HF
              obtain ⟨M, e1⟩ : ∃ M, M = N := ⟨_, rfl⟩
              have HM := Lib.hid (show M = numOf s.data.toList by rw [e1, HF]; unfold numOf; rw [HA.out, if_pos rfl])
              subst e1
              have hM : I64 M := by rw [HM.out]; exact numOf_range _
              obtain ⟨t, ht⟩ : ∃ t, t = ByteArray.mk (Lib.itoa M).toArray := ⟨_, rfl⟩
              have DC := Lib.hid (fun W => rdec6_any M W hM)
              rw [← ht] at DC
              have HT := Lib.hid ht
              clear HF ht
              by_cases he : t = s
              · have YES := Lib.hid (show IsNum s.data.toList M from ⟨hM, by rw [← he, HT.out]⟩)
                clear hM
                subst he
                go_wp2_with fail
                refine (DC.out _).mono ?_
                rintro e w1 ⟨rfl, oo⟩
                go_wp2_with fail
                refine bodyPost_ret (results_tmp2 rfl _ _ _) rfl ⟨⟨M, true, rfl, ans_yes YES.out⟩, oo⟩
              · have BAD := Lib.hid (show ∀ m, ¬ IsNum s.data.toList m from fun m h => he (by
                  have := (num_len h).2.2.2
                  apply ByteArray.ext
                  apply Array.toList_inj.1
                  rw [HT.out, HM.out, this, h.2]))
                have hb2 : (t.toList == s.toList) = false := by
                  rw [beq_eq_false_iff_ne, ByteArray.toList_eq, ByteArray.toList_eq]
                  exact fun h => he (ByteArray.ext (Array.toList_inj.1 h))
                have ANS := Lib.hid (ans_not hM BAD.out)
                clear hM he
                go_wp2_with fail
                refine (DC.out _).mono ?_
                rintro e w1 ⟨rfl, oo⟩
                go_wp2_with fail
                refine bodyPost_ret (results_tmp2 rfl _ _ _) rfl ⟨⟨M, false, rfl, ANS.out⟩, oo⟩
        · have BAD := Lib.hid (show ∀ m, ¬ IsNum s.data.toList m from fun m h => by
            have := (num_len h).2.1
            rw [HL.out, HA.out] at this
            omega)
          have q1 : (1 : Int) < (s.size : Int) := by omega
          have q1' : ((1 : Int) == (s.size : Int)) = false := by rw [beq_eq_false_iff_ne]; omega
          have q2 : (20 : Int) < (s.size : Int) := by omega
          clear h0 h1 h20
          go_enter Tryd.func63, Tryd.ntmps63
          go_wp2_with fail
          refine bodyPost_ret (results_tmp2 rfl _ _ _) rfl ⟨⟨0, false, rfl, ans_no BAD.out⟩, Only.refl _ _⟩
    · have HA : Hid (atM s.data.toList = 0) := Lib.hid (by rw [HA0.out, if_neg hm])
      have hne : ¬ s = ByteArray.empty := fun h => by rw [h] at h0; exact absurd h0 (by decide)
      have hm2 : (bAt s 0 == 45) = false := by rw [beq_eq_false_iff_ne]; exact hm
      have q1' : ((0 : Int) == (s.size : Int)) = false := by rw [beq_eq_false_iff_ne]; omega
      by_cases h20 : s.size ≤ 20
      · have q2 : (s.size : Int) ≤ 20 := by omega
        clear hm
        go_enter Tryd.func63, Tryd.ntmps63
        go_wp2_with fail
        go_loop [2, 3, 5, 6] (fun _ _ nv kv => ∃ (k : Nat) (N : Int), 0 ≤ k ∧ k ≤ s.size ∧ kv = .int .i64 k ∧ nv = .int .i64 N ∧ I64 N ∧ Hid (N = IntKind.i64.wrap (-(valD ((s.data.toList.take k).drop 0) : Int))) ∧ Hid (∀ x ∈ (s.data.toList.take k).drop 0, IsDig x)) (fun _ _ _ kv => s.size - (intOf kv).toNat)
        case atStart => exact ⟨0, 0, Nat.le_refl _, by omega, rfl, rfl, by unfold I64; omega, Lib.hid (by rw [List.drop_of_length_le (by rw [List.length_take]; omega)]; decide), Lib.hid (by rw [List.drop_of_length_le (by rw [List.length_take]; omega)]; intro x hx; cases hx)⟩
        case round =>
          obtain ⟨k, N, hk1, hk2, rfl, rfl, hN, HN, HD⟩ := hrel
          by_cases hlt : k < s.size
          · have r0 := bAt_range s k
            have EB := Lib.hid (show bAt s k = (s.data.toList.getD k 0).toNat from rfl)
            have TS := Lib.hid (take_drop_snoc s.data.toList 0 k hk1 (by rw [HL.out]; exact hlt))
            have MEM := Lib.hid (show s.data.toList.getD k 0 ∈ s.data.toList.drop 0 from getD_in_drop hk1 (by rw [HL.out]; exact hlt))
            have i1 : (k : Int) < (s.size : Int) := by omega
            by_cases hd : 48 ≤ bAt s k ∧ bAt s k ≤ 57
            · have hd1 := hd.1
              have hd2 := hd.2
              have ND := Lib.hid (show ∀ x ∈ (s.data.toList.take (k + 1)).drop 0, IsDig x from fun x hx => by
                rw [TS.out] at hx
                rcases List.mem_append.1 hx with h | h
                · exact HD.out x h
                · rw [List.mem_singleton] at h; subst h; unfold IsDig; have := EB.out; omega)
              obtain ⟨N1, e1⟩ : ∃ N1, IntKind.i64.wrap (10 * N) = N1 := ⟨_, rfl⟩
              obtain ⟨N2, e2⟩ : ∃ N2, IntKind.i64.wrap (N1 - (bAt s k - 48)) = N2 := ⟨_, rfl⟩
              have NN := Lib.hid (show N2 = IntKind.i64.wrap (-(valD ((s.data.toList.take (k + 1)).drop 0) : Int)) by
                rw [TS.out, valD_snoc, ← e2, ← e1, HN.out, neg_step]
                congr 1
                have := EB.out
                omega)
              have w1 := wrap_range (N1 - (bAt s k - 48))
              rw [e2] at w1
              clear hd
              go_wp2_with fail
              go_round
              case rel => exact ⟨k + 1, N2, by omega, by omega, by go_num, rfl, w1, NN, ND⟩
              case measure => simp [intOf]; omega
            · have BAD := Lib.hid (show ∀ m, ¬ IsNum s.data.toList m from fun m h => by
                have := (num_len h).2.2.1 _ (by rw [HA.out]; exact MEM.out)
                unfold IsDig at this
                have := EB.out
                omega)
              by_cases hd1 : bAt s k < 48
              · clear hd
                go_wp2_with fail
                refine bodyPost_ret (results_tmp2 rfl _ _ _) rfl ⟨⟨0, false, rfl, ans_no BAD.out⟩, Only.refl _ _⟩
              · have hd2 : 57 < bAt s k := by omega
                clear hd
                go_wp2_with fail
                refine bodyPost_ret (results_tmp2 rfl _ _ _) rfl ⟨⟨0, false, rfl, ans_no BAD.out⟩, Only.refl _ _⟩
          · obtain rfl : k = s.size := by omega
            have HF := HN.out
            rw [List.take_of_length_le (by rw [HL.out]; exact Nat.le_refl _)] at HF
            obtain ⟨M, e1⟩ : ∃ M, IntKind.i64.wrap (-N) = M := ⟨_, rfl⟩
            have HM := Lib.hid (show M = numOf s.data.toList by rw [← e1, HF, List.drop_zero, neg_neg]; unfold numOf; rw [HA.out, if_neg (by omega)])
            have hM : I64 M := by rw [HM.out]; exact numOf_range _
            obtain ⟨t, ht⟩ : ∃ t, t = ByteArray.mk (Lib.itoa M).toArray := ⟨_, rfl⟩
            have DC := Lib.hid (fun W => rdec6_any M W hM)
            rw [← ht] at DC
            have HT := Lib.hid ht
            clear HF ht
            by_cases he : t = s
            · have YES := Lib.hid (show IsNum s.data.toList M from ⟨hM, by rw [← he, HT.out]⟩)
              clear hM
              subst he
              go_wp2_with fail
              refine (DC.out _).mono ?_
              rintro e w1 ⟨rfl, oo⟩
              go_wp2_with fail
              refine bodyPost_ret (results_tmp2 rfl _ _ _) rfl ⟨⟨M, true, rfl, ans_yes YES.out⟩, oo⟩
            · have BAD := Lib.hid (show ∀ m, ¬ IsNum s.data.toList m from fun m h => he (by
                have := (num_len h).2.2.2
                apply ByteArray.ext
                apply Array.toList_inj.1
                rw [HT.out, HM.out, this, h.2]))
              have hb2 : (t.toList == s.toList) = false := by
                rw [beq_eq_false_iff_ne, ByteArray.toList_eq, ByteArray.toList_eq]
                exact fun h => he (ByteArray.ext (Array.toList_inj.1 h))
              have ANS := Lib.hid (ans_not hM BAD.out)
              clear hM he
              go_wp2_with fail
              refine (DC.out _).mono ?_
              rintro e w1 ⟨rfl, oo⟩
              go_wp2_with fail
              refine bodyPost_ret (results_tmp2 rfl _ _ _) rfl ⟨⟨M, false, rfl, ANS.out⟩, oo⟩
      · have BAD := Lib.hid (show ∀ m, ¬ IsNum s.data.toList m from fun m h => by
          have := (num_len h).2.1
          rw [HL.out, HA.out] at this
          omega)
        have q2 : (20 : Int) < (s.size : Int) := by omega
        clear h0 h20 hm
        go_enter Tryd.func63, Tryd.ntmps63
        go_wp2_with fail
        refine bodyPost_ret (results_tmp2 rfl _ _ _) rfl ⟨⟨0, false, rfl, ans_no BAD.out⟩, Only.refl _ _⟩
end Go.Proofs.YtoekhpnapnhefaaDoor

namespace Go.Proofs.YtoekhpnapnhefaaDoor
open Go.RowKit Go.Shelf
set_option linter.unusedVariables false
set_option linter.unusedSimpArgs false

theorem zeroP6 (w : World) : (zeroValue 58).run Tryd.prog w = .ok (.agg [.int .i64 0, .int .i64 0].toArray) w := by kernel_rfl
theorem infoProof6 : (Tryd.prog.info? 58).map (·.size) = some 2 := by kernel_rfl
set_option maxRecDepth 100000 in
theorem rtext6_any (r s : Int) (hr : I64 r) (hs : I64 s) (w : World) :
    Calls Tryd.prog 33 #[.agg #[.int .i64 r, .int .i64 s]] w fun e w' => e = .returned (.string ⟨(txt r s).toArray⟩) ∧ Only (fun _ => False) w w' := by
  have A := Lib.hid (At.new w 58 [.int .i64 r, .int .i64 s])
  have O := Lib.hid ((Only.refl (fun _ => False) w).alloc (.cells [.int .i64 r, .int .i64 s].toArray 58))
  obtain ⟨x, hx⟩ : ∃ x, x = ByteArray.mk (Lib.itoa r).toArray := ⟨_, rfl⟩
  obtain ⟨y, hy⟩ : ∃ y, y = ByteArray.mk (Lib.itoa s).toArray := ⟨_, rfl⟩
  have hxz : x.size ≤ 21 := by rw [hx]; exact Lib.itoa_length_le r hr.1 hr.2
  have hyz : y.size ≤ 21 := by rw [hy]; exact Lib.itoa_length_le s hs.1 hs.2
  obtain ⟨t, ht⟩ : ∃ t, t = x ++ ByteArray.mk #[46] ++ y := ⟨_, rfl⟩
  have HT := Lib.hid (show ByteArray.mk (txt r s).toArray = t by rw [ht, hx, hy, ByteArray.mk_append_mk', ByteArray.mk_append_mk']; simp [txt])
  have HTE := Lib.hid ht.symm
  have hneg1 : ¬ (9223372036854775807 < x.size + 1) := by omega
  have hneg2 : ¬ (9223372036854775807 < x.size + 1 + y.size) := by omega
  have IA := Lib.hid (fun W => rdec6_any r W hr)
  have IB := Lib.hid (fun W => rdec6_any s W hs)
  rw [← hx] at IA
  rw [← hy] at IB
  clear hx hy ht hr hs hxz hyz
  go_enter Tryd.func33, Tryd.ntmps33
  go_wp2_with fail
  obtain ⟨w1, hw1⟩ : ∃ w1, w1 = w.alloc (.cells #[.int .i64 r, .int .i64 s] 58) := ⟨_, rfl⟩
  rw [← hw1]
  have A1 : Hid (At w1 w.heap.size 58 [.int .i64 r, .int .i64 s]) := Lib.hid (by rw [hw1]; exact A.out)
  have O1 : Hid (Only (fun _ => False) w w1) := Lib.hid (by rw [hw1]; exact O.out)
  clear hw1 A O
  obtain ⟨X, F, FM⟩ := fam w1
  have NE := FM.ne
  have c0 := FM.cell (A1.out.cell (i := 0) rfl)
  have c1 := FM.cell (A1.out.cell (i := 1) rfl)
  refine FM.region (by kernel_rfl) (by kernel_rfl) ?_
  repeat (first | go_big_quiet_step ((first | (go_at_call_of 62 (Value.int IntKind.i64 r); with_reducible exact FM.call (IA.out _)) | (go_at_call_of 62 (Value.int IntKind.i64 s); with_reducible exact FM.call (IB.out _)))) | quiet_step (fail))
  refine wpQuiet_nil ?_
  intro x1
  go_wp2_with fail
  go_ret
  exact ⟨by rw [HT.out, ← HTE.out]; rfl, O1.out.trans (FM.own x1) (fun _ _ h => h)⟩
set_option maxRecDepth 100000 in
set_option maxHeartbeats 4000000 in
theorem rread6_any (s : ByteArray) (v u : Int) (b : Bool) (w : World) (h : Rd s.data.toList v u b) (hs : s.size ≤ 140737488355328) :
    Calls Tryd.prog 34 #[.string s] w fun e w' => e = .returned (.tuple #[.agg #[.int .i64 v, .int .i64 u], .bool b]) ∧ Only (fun _ => False) w w' := by
  have hb := bAt_get s
  have HL := Lib.hid (show s.data.toList.length = s.size from Array.length_toList)
  have HR := Lib.hid h
  clear h
  go_enter Tryd.func34, Tryd.ntmps34
  go_wp2_with (with_reducible refine wpl_alloc_all (o := ⟨some 2, _, _, _, _, _⟩) rfl _ rfl _ (zeroP6 _) ?_; intro w1 h1 o1 s1; have A := Lib.hid h1; have O := Lib.hid o1; clear h1 o1 s1)
  go_loop [3, 4, 5, 6, 7, 8] (fun _ kv _ _ _ _ => ∃ (k : Nat), k ≤ s.size ∧ kv = .int .i64 k ∧ Hid (∀ x ∈ s.data.toList.take k, x ≠ 46)) (fun _ kv _ _ _ _ => s.size - (intOf kv).toNat)
  case atStart => exact ⟨0, by omega, rfl, Lib.hid (by rw [List.take_zero]; intro x hx; cases hx)⟩
  case round =>
    obtain ⟨k, hk, rfl, HD⟩ := hrel
    by_cases hlt : k < s.size
    · have r0 := bAt_range s k
      have EB0 := Lib.hid (show bAt s k = (s.data.toList.getD k 0).toNat from rfl)
      have TS := Lib.hid (take_snocB s.data.toList k (by rw [HL.out]; exact hlt))
      have i1 : (k : Int) < (s.size : Int) := by omega
      by_cases hd : bAt s k = 46
      · have PC := Lib.hid (show s.data.toList = (s.extract 0 k).data.toList ++ 46 :: (s.extract (k + 1) s.size).data.toList ∧ (∀ x ∈ (s.extract 0 k).data.toList, x ≠ 46) from by
          obtain ⟨e1, e2⟩ := pieces s k hlt
          rw [e1, e2]
          refine ⟨?_, HD.out⟩
          conv => lhs; rw [← List.take_append_drop k s.data.toList]
          rw [drop_cons s.data.toList k (by rw [HL.out]; exact hlt), show s.data.toList.getD k 0 = 46 from UInt8.toNat_inj.1 (by have := EB0.out; show (s.data.toList.getD k 0).toNat = 46; omega)])
        have NA := Lib.hid (fun W => rnum6_any (s.extract 0 k) W (by rw [ByteArray.size_extract]; omega))
        have NB := Lib.hid (fun W => rnum6_any (s.extract (k + 1) s.size) W (by rw [ByteArray.size_extract]; omega))
        generalize hx : (s.extract 0 k) = xa at *
        generalize hy : (s.extract (k + 1) s.size) = xb at *
        have HX := Lib.hid hx
        have HY := Lib.hid hy
        have q1 : (k : Int) + 1 ≤ (s.size : Int) := by omega
        have t1 : ((k : Int) + 1).toNat = k + 1 := by omega
        clear hx hy
        go_wp2_with fail
        rw [HX.out]
        refine (NA.out _).mono ?_
        rintro e w2 ⟨⟨v1, b1, rfl, ha⟩, oo⟩
        have HA := Lib.hid ha
        replace O := Lib.hid (O.out.trans oo (fun _ _ h => h))
        replace A := Lib.hid (A.out.only oo (fun h => h))
        clear oo ha
        go_wp2_with fail
        rw [HY.out]
        refine (NB.out _).mono ?_
        rintro e w3 ⟨⟨v2, b2, rfl, ha⟩, oo⟩
        have HB := Lib.hid ha
        replace O := Lib.hid (O.out.trans oo (fun _ _ h => h))
        replace A := Lib.hid (A.out.only oo (fun h => h))
        clear oo ha
        have c0 := A.out.cell (i := 0) rfl
        have c1 := A.out.cell (i := 1) rfl
        have f0 := A.out.frozen 0
        have f1 := A.out.frozen 1
        cases b1
        · have BD := rd_bad PC.out HA.out HB.out (.inl rfl) HR.out
          obtain ⟨x1, x2, x3⟩ := BD
          have EV := Lib.hid x1
          have EU := Lib.hid x2
          have EB := Lib.hid x3
          clear x1 x2 x3
          go_wp2_with fail
          refine bodyPost_ret (results_cell_tmp rfl _ w.heap.size rfl 58 [.int .i64 0, .int .i64 0] _ ((A.out.put 0 (.int .i64 0)).put 1 (.int .i64 0)) Tryd.underlying58 rfl infoProof6 (.bool false) rfl) rfl ⟨by rw [EV.out, EU.out, EB.out], ?_⟩
          exact (O.out.put (p := ⟨w.heap.size, 0, none⟩) (fun h => absurd h (Nat.lt_irrefl _)) _).put (p := ⟨w.heap.size, 1, none⟩) (fun h => absurd h (Nat.lt_irrefl _)) _
        · cases b2
          · have BD := rd_bad PC.out HA.out HB.out (.inr rfl) HR.out
            obtain ⟨x1, x2, x3⟩ := BD
            have EV := Lib.hid x1
            have EU := Lib.hid x2
            have EB := Lib.hid x3
            clear x1 x2 x3
            go_wp2_with fail
            refine bodyPost_ret (results_cell_tmp rfl _ w.heap.size rfl 58 [.int .i64 0, .int .i64 0] _ ((A.out.put 0 (.int .i64 0)).put 1 (.int .i64 0)) Tryd.underlying58 rfl infoProof6 (.bool false) rfl) rfl ⟨by rw [EV.out, EU.out, EB.out], ?_⟩
            exact (O.out.put (p := ⟨w.heap.size, 0, none⟩) (fun h => absurd h (Nat.lt_irrefl _)) _).put (p := ⟨w.heap.size, 1, none⟩) (fun h => absurd h (Nat.lt_irrefl _)) _
          · have GD := rd_good PC.out HA.out HB.out HR.out
            obtain ⟨x1, x2, x3⟩ := GD
            have EV := Lib.hid x1
            have EU := Lib.hid x2
            have EB := Lib.hid x3
            clear x1 x2 x3
            go_wp2_with fail
            refine bodyPost_ret (results_cell_tmp rfl _ w.heap.size rfl 58 [.int .i64 v1, .int .i64 v2] _ ((A.out.put 0 (.int .i64 v1)).put 1 (.int .i64 v2)) Tryd.underlying58 rfl infoProof6 (.bool true) rfl) rfl ⟨by rw [EV.out, EU.out, EB.out], ?_⟩
            exact (O.out.put (p := ⟨w.heap.size, 0, none⟩) (fun h => absurd h (Nat.lt_irrefl _)) _).put (p := ⟨w.heap.size, 1, none⟩) (fun h => absurd h (Nat.lt_irrefl _)) _
      · have b0 : (bAt s k == 46) = false := by rw [beq_eq_false_iff_ne]; exact hd
        have ND := Lib.hid (show ∀ x ∈ s.data.toList.take (k + 1), x ≠ 46 from fun x hx => by
          rw [TS.out] at hx
          rcases List.mem_append.1 hx with h | h
          · exact HD.out x h
          · rw [List.mem_singleton] at h
            subst h
            intro h46
            rw [h46] at EB0
            exact hd EB0.out)
        clear hd
        go_wp2_with fail
        go_round
        case rel => exact ⟨k + 1, by omega, by go_num, ND⟩
        case measure => simp [intOf]; omega
    · obtain rfl : k = s.size := by omega
      have DL := HD.out
      rw [List.take_of_length_le (by rw [HL.out]; exact Nat.le_refl _)] at DL
      have BD := rd_none DL HR.out
      obtain ⟨x1, x2, x3⟩ := BD
      have EV := Lib.hid x1
      have EU := Lib.hid x2
      have EB := Lib.hid x3
      have c0 := A.out.cell (i := 0) rfl
      have c1 := A.out.cell (i := 1) rfl
      have f0 := A.out.frozen 0
      have f1 := A.out.frozen 1
      clear x1 x2 x3 DL
      go_wp2_with fail
      refine bodyPost_ret (results_cell_tmp rfl _ w.heap.size rfl 58 [.int .i64 0, .int .i64 0] _ ((A.out.put 0 (.int .i64 0)).put 1 (.int .i64 0)) Tryd.underlying58 rfl infoProof6 (.bool false) rfl) rfl ⟨by rw [EV.out, EU.out, EB.out], ?_⟩
      exact (O.out.put (p := ⟨w.heap.size, 0, none⟩) (fun h => absurd h (Nat.lt_irrefl _)) _).put (p := ⟨w.heap.size, 1, none⟩) (fun h => absurd h (Nat.lt_irrefl _)) _
end Go.Proofs.YtoekhpnapnhefaaDoor

namespace Go.Proofs.YtoekhpnapnhefaaDoor
open Go.RowKit Go.Shelf
set_option linter.unusedVariables false
set_option linter.unusedSimpArgs false

theorem BRow.set {w : World} {g cap : Nat} {l : List UInt8} (h : BRow w g cap l) (j : Nat) (b : UInt8) (hj : j < l.length) : BRow (w.setCell ⟨g, j, none⟩ (.int .u8 (b.toNat : Int))) g cap (l.set j b) := by
  obtain ⟨cur, fr, h, hs, hf, hc, ht, hl⟩ := h
  refine ⟨cur.setIfInBounds j (.int .u8 (b.toNat : Int)), fr, ?_, by simpa using hs, hf, hc, ?_, by simpa using hl⟩
  · simp [World.setCell, Array.getElem?_modify, h]
  · rw [Array.toList_setIfInBounds, List.length_set, List.take_set, ht]
    simp [bcells, List.map_set]
theorem BRow.back {w : World} {g cap : Nat} {l : List UInt8} (h : BRow w g cap l) : (convert 55 9 (.slice (some ⟨g, 0, none⟩) l.length cap)).run Tryd.prog w = .ok (.string ⟨l.toArray⟩) w :=
  run_convert_bytes_back (P := Tryd.prog) w 55 9 5 ⟨g, 0, none⟩ cap l Tryd.underlying55 Tryd.underlying5 Tryd.underlying9 (fun j hj => by
    rw [Addr.add_lit, Nat.zero_add]
    exact h.get j _ (List.getElem?_eq_getElem hj))
theorem nguard_proof (w : World) (x y : Operand) (a b c d : Int) : (eqGuard .neq 58 x y (.agg #[.int .i64 a, .int .i64 b]) (.agg #[.int .i64 c, .int .i64 d])).run Tryd.prog w = .ok () w := by
  go_simp
theorem neq_proof_same (w : World) (a b : Int) : (binOp .neq 58 (.agg #[.int .i64 a, .int .i64 b]) (.agg #[.int .i64 a, .int .i64 b])).run Tryd.prog w = .ok (.bool false) w := by
  rw [run_neq_struct]
  go_simp
set_option maxRecDepth 100000 in
set_option maxHeartbeats 4000000 in
theorem equalTexts_any (r s : Int) (raw : ByteArray) (q0 q1 : Int) (w : World) (ht : Tab w) (hm : MaxL w) (hE : ErrV w) (hr : I64 r) (hs : I64 s) (hq0 : 0 ≤ q0 ∧ q0 ≤ 65535) (hq1 : 0 ≤ q1 ∧ q1 ≤ 65535) (hz : raw.size ≤ 140737488355000) :
    Calls Tryd.prog 7 #[.agg #[.int .i64 r, .int .i64 s], .string raw, .agg #[.int .u16 q0, .int .u16 q1]] w fun e w' => e = .returned (.bool true) ∧ Only (fun _ => False) w w' := by
  obtain ⟨wp, hwp⟩ : ∃ wp, wp = w.alloc (.cells [.int .i64 r, .int .i64 s].toArray 58) := ⟨_, rfl⟩
  have op := (Only.refl (fun _ => False) w).alloc (.cells [.int .i64 r, .int .i64 s].toArray 58)
  have P := Lib.hid (At.new w 58 [.int .i64 r, .int .i64 s])
  rw [← hwp] at op P
  have zp : wp.heap.size = w.heap.size + 1 := by rw [hwp]; simp
  have oq := op.alloc (.cells [.int .u16 q0, .int .u16 q1].toArray 60)
  replace P := Lib.hid (P.out.alloc (.cells [.int .u16 q0, .int .u16 q1].toArray 60))
  have SA := Lib.hid (sanity6 _ (ht.only oq) (hm.only oq))
  have B := Lib.hid (At.new wp 60 [.int .u16 q0, .int .u16 q1])
  rw [zp] at B
  rw [hwp] at B SA P oq
  have O := Lib.hid oq
  clear oq op zp hwp
  have TX := Lib.hid (fun W (o : Only (fun _ => False) w W) => etext_any r s hr hs W (ht.only o))
  have RX := Lib.hid (fun W => rtext6_any r s hr hs W)
  have hL : 0 < (txt r s).length := List.length_pos_iff.2 (fun h => by have := txt_has_dot r s; rw [h] at this; cases this)
  have hL2 := txt_len hr hs
  obtain ⟨tx, htx⟩ : ∃ tx, tx = ByteArray.mk (txt r s).toArray := ⟨_, rfl⟩
  have htl : tx.data.toList = txt r s := by rw [htx]
  have hsz : tx.size = (txt r s).length := by rw [htx]; exact List.size_toArray
  have RD := Lib.hid (fun W (o : Only (fun _ => False) w W) => eread_any2 tx r s true W (by rw [htl]; exact rd_txt hr hs) (ht.only o) (hE.only o) (by omega))
  rw [← htx] at TX RX
  have hsz1 : 0 < tx.size := by omega
  have hsz2 : tx.size ≤ 43 := by omega
  have hne : ¬ tx = ByteArray.empty := fun h => by rw [h] at hsz1; exact absurd hsz1 (by decide)
  have HT := Lib.hid ht
  have HE := Lib.hid hE
  clear htl hsz hL hL2 htx ht hm hE hr hs
  go_enter Tryd.func7, Tryd.ntmps7
  go_wp2_with fail
  refine SA.out.mono ?_
  rintro e wc1 ⟨rfl, oo⟩
  replace O := Lib.hid (O.out.trans oo (fun _ _ h => h))
  replace P := Lib.hid (P.out.only oo (fun h => h))
  replace B := Lib.hid (B.out.only oo (fun h => h))
  clear oo SA
  have c0 := P.out.cell (i := 0) rfl
  have c1 := P.out.cell (i := 1) rfl
  go_wp2_with fail
  clear c0 c1
  refine (TX.out _ O.out).mono ?_
  rintro e w2 ⟨rfl, oo⟩
  replace O := Lib.hid (O.out.trans oo (fun _ _ h => h))
  replace P := Lib.hid (P.out.only oo (fun h => h))
  replace B := Lib.hid (B.out.only oo (fun h => h))
  clear oo
  go_wp2_with fail
  refine (RD.out _ O.out).mono ?_
  rintro e w3 ⟨rfl, oo⟩
  have C := Lib.hid (At.new w3 58 [.int .i64 r, .int .i64 s])
  replace O := Lib.hid ((O.out.trans oo (fun _ _ h => h)).alloc (.cells [.int .i64 r, .int .i64 s].toArray 58))
  replace P := Lib.hid ((P.out.only oo (fun h => h)).alloc (.cells [.int .i64 r, .int .i64 s].toArray 58))
  replace B := Lib.hid ((B.out.only oo (fun h => h)).alloc (.cells [.int .i64 r, .int .i64 s].toArray 58))
  clear oo
  have c0 := P.out.cell (i := 0) rfl
  have c1 := P.out.cell (i := 1) rfl
  go_wp2_with fail
  refine (RX.out _).mono ?_
  rintro e w4 ⟨rfl, oo⟩
  replace O := Lib.hid (O.out.trans oo (fun _ _ h => h))
  replace P := Lib.hid (P.out.only oo (fun h => h))
  replace B := Lib.hid (B.out.only oo (fun h => h))
  replace C := Lib.hid (C.out.only oo (fun h => h))
  clear oo c0 c1
  have c0 := P.out.cell (i := 0) rfl
  have c1 := P.out.cell (i := 1) rfl
  have d0 := C.out.cell (i := 0) rfl
  have d1 := C.out.cell (i := 1) rfl
  obtain ⟨cap, hcv, hbr, hol⟩ := conv_brow w4 tx (by omega)
  have htz : tx.data.toList.length = tx.size := Array.length_toList
  rw [htz] at hcv
  go_wp2_with (refine wpl_bin (o := ⟨some 37, _, _, _, _, _⟩) rfl .neq 58 58 (.tmp 35) (.tmp 36) rfl _ _ _ rfl rfl (nguard_proof _ _ _ _ _ _ _) (neq_proof_same _ _ _) ?_)
  have HGB : Hid (w.heap.size + 1 < w4.heap.size) := Lib.hid B.out.lt
  have BR := Lib.hid hbr
  replace O := Lib.hid (O.out.trans hol (fun _ _ h => h))
  replace B := Lib.hid (B.out.only hol (fun h => h))
  generalize Lib.bytesWorld w4 5 tx = w5 at *
  generalize w4.heap.size = gb at *
  obtain ⟨n, hn⟩ : ∃ n, n = tx.size := ⟨_, rfl⟩
  rw [← hn] at hsz1 hsz2 htz ⊢
  have HN := Lib.hid hn
  obtain ⟨idx, e2⟩ : ∃ idx : Nat, q0 % (n : Int) = (idx : Int) := Int.eq_ofNat_of_zero_le (Int.emod_nonneg _ (by omega))
  have m3 : (idx : Int) < n := by rw [← e2]; exact Int.emod_lt_of_pos _ (by omega)
  have z1 : ((n : Int) == 0) = false := by rw [beq_eq_false_iff_ne]; omega
  have z2 : (n : Int) ≠ 0 := by omega
  have z3 : (n : Int) ≤ 43 := by omega
  have z4 : (0 : Int) ≤ q0 := hq0.1
  have z5 : q0 ≤ 65535 := hq0.2
  have hcap : n ≤ cap := by
    obtain ⟨_, _, _, _, _, _, _, h8⟩ := BR.out
    omega
  obtain ⟨by_, hby_⟩ : ∃ by_, IntKind.u8.wrap q1 = by_ := ⟨_, rfl⟩
  have hby : 0 ≤ by_ ∧ by_ ≤ 255 := by rw [← hby_, IntKind.wrap_u8]; omega
  clear hcv hbr hol c0 c1 d0 d1 P C htz hn hq0 hq1
  obtain ⟨X, F, FM⟩ := fam w5
  have NE := FM.ne
  have c0 := FM.cell (B.out.cell (i := 0) rfl)
  have c1 := FM.cell (B.out.cell (i := 1) rfl)
  refine FM.tail 11 (by kernel_rfl) (by decide +kernel) ?_
  simp only [List.take_succ_cons, List.take_zero, List.drop_succ_cons, List.drop_zero]
  repeat (first | go_big_quiet_step (fail) | quiet_step (fail))
  refine wpQuiet_nil ?_
  intro x
  clear c0 c1
  replace BR := Lib.hid (BR.out.only (FM.own x) (fun h => h))
  replace O := Lib.hid (O.out.trans (FM.own x) (fun _ _ h => h))
  generalize F x = w6 at BR O ⊢
  clear FM NE
  have cz := BR.out.cellAny idx (by omega)
  have fz := BR.out.frozen idx (by omega)
  obtain ⟨old, cz⟩ := Option.isSome_iff_exists.1 cz
  have BS := Lib.hid (show BRow (w6.setCell ⟨gb, idx, none⟩ (.int .u8 by_)) gb cap (tx.data.toList.set idx (UInt8.ofNat by_.toNat)) from by
    have := BR.out.set idx (UInt8.ofNat by_.toNat) (by have : tx.data.toList.length = tx.size := Array.length_toList; have := HN.out; omega)
    rw [show (((UInt8.ofNat by_.toNat).toNat : Nat) : Int) = by_ by rw [UInt8.toNat_ofNat']; omega] at this
    exact this)
  have hll : (tx.data.toList.set idx (UInt8.ofNat by_.toNat)).length = n := by
    rw [List.length_set]
    have : tx.data.toList.length = tx.size := Array.length_toList
    have := HN.out
    omega
  have OS := Lib.hid (show Only (fun _ => False) w (w6.setCell ⟨gb, idx, none⟩ (.int .u8 by_)) from O.out.put (p := ⟨gb, idx, none⟩) (fun h => absurd (show gb < w.heap.size from h) (by have := HGB.out; omega)) _)
  go_wp2_with fail
  generalize w6.setCell ⟨gb, idx, none⟩ (.int .u8 by_) = w7 at BS OS ⊢
  obtain ⟨u2, hu2⟩ : ∃ u2, u2 = ByteArray.mk (tx.data.toList.set idx (UInt8.ofNat by_.toNat)).toArray := ⟨_, rfl⟩
  have hu2z : u2.size = n := by rw [hu2]; show (List.toArray _).size = n; rw [List.size_toArray]; exact hll
  have DS := Lib.hid (show ∀ W, Only (fun _ => False) w7 W → (convert 55 9 (.slice (some ⟨gb, 0, none⟩) n cap)).run Tryd.prog W = .ok (.string u2) W from fun W o => by
    have := (BS.out.only o (fun h => h)).back
    rw [hll, ← hu2] at this
    exact this)
  have hz1 : (1 : Int) ≤ (tx.size : Int) := by have := HN.out; omega
  have hz2 : (tx.size : Int) ≤ 43 := by have := HN.out; omega
  have n1 : ¬ (9223372036854775807 < tx.size + 1) := by omega
  have n2 : ¬ (9223372036854775807 < 1 + tx.size) := by omega
  have n3 : ¬ (9223372036854775807 < tx.size + raw.size) := by omega
  have HZR := Lib.hid hz
  clear BS hll cz fz BR O B hu2 hz
  have HM2 := Lib.hid hu2z
  clear hu2z hby m3 e2 z4 z5 hcap hby_
  go_region_held3 (fun W => (convert 55 9 (.slice (some ⟨gb, 0, none⟩) n cap)).run Tryd.prog W = .ok (.string u2) W) ((first | exact DS.out _ ((Only.refl (fun _ => False) _).drew) | exact DS.out _ (((Only.refl (fun _ => False) _).alloc _).drew))) (first | fail)
  go_wp2_with fail
  obtain ⟨strs, hst⟩ : ∃ strs : List ByteArray, strs = [u2, raw, tx ++ raw, ⟨#[48]⟩ ++ tx, tx ++ ⟨#[48]⟩, tx.extract 1 tx.size, ⟨#[45]⟩ ++ tx] := ⟨_, rfl⟩
  have HLEN := Lib.hid (show strs.length = 7 by rw [hst]; rfl)
  have HSZ := Lib.hid (show ∀ x ∈ strs, x.size ≤ 140737488355328 from fun x hx => by
    have := HM2.out
    have := HZR.out
    rw [hst] at hx
    simp only [List.mem_cons, List.not_mem_nil, or_false] at hx
    rcases hx with rfl | rfl | rfl | rfl | rfl | rfl | rfl
    · omega
    · omega
    · rw [ByteArray.size_append]; omega
    · rw [ByteArray.size_append]; show 1 + tx.size ≤ _; omega
    · rw [ByteArray.size_append]; show tx.size + 1 ≤ _; omega
    · rw [ByteArray.size_extract]; omega
    · rw [ByteArray.size_append]; show 1 + tx.size ≤ _; omega)
  obtain ⟨wL, hwL⟩ : ∃ wL, wL = (w7.alloc (.cells #[.string u2, .string raw, .string (tx ++ raw), .string (⟨#[48]⟩ ++ tx), .string (tx ++ ⟨#[48]⟩), .string (tx.extract 1 tx.size), .string (⟨#[45]⟩ ++ tx)] 9)).drew := ⟨_, rfl⟩
  rw [← hwL]
  have AL : Hid (At wL w7.heap.size 9 (strs.map Value.string)) := Lib.hid (by
    rw [hwL, hst]
    exact (At.new w7 9 [.string u2, .string raw, .string (tx ++ raw), .string (⟨#[48]⟩ ++ tx), .string (tx ++ ⟨#[48]⟩), .string (tx.extract 1 tx.size), .string (⟨#[45]⟩ ++ tx)]).drew)
  have OL : Hid (Only (fun _ => False) w wL) := Lib.hid (by rw [hwL]; exact (OS.out.alloc _).drew)
  generalize w7.heap.size = gL at *
  clear hst hwL DS OS
  go_loopw [6, 13, 14, 15, 16, 17, 68] (fun _ _ _ _ _ _ iv wr => ∃ (k : Nat), k ≤ 7 ∧ iv = .int .i64 k ∧ Hid (At wr gL 9 (strs.map Value.string)) ∧ Hid (Only (fun _ => False) w wr)) (fun _ _ _ _ _ _ iv _ => (7 - intOf iv).toNat)
  case atStart => exact ⟨0, by omega, rfl, AL, OL⟩
  case round =>
    clear AL OL
    obtain ⟨k, hk, rfl, HA, HO⟩ := hrel
    by_cases hlt : k < 7
    · obtain ⟨x, hx⟩ : ∃ x, strs[k]? = some x := ⟨_, List.getElem?_eq_getElem (by rw [HLEN.out]; exact hlt)⟩
      have hxz := HSZ.out x (List.mem_of_getElem? hx)
      have c0 := HA.out.cell (i := k) (v := .string x) (by rw [List.getElem?_map, hx]; rfl)
      obtain ⟨v, u, b, hrd⟩ := rd_total x.data.toList
      have SR := Lib.hid (fun W (o : Only (fun _ => False) w W) => eread_any2 x v u b W hrd (HT.out.only o) (HE.out.only o) hxz)
      have RR := Lib.hid (fun W => rread6_any x v u b W hrd hxz)
      have i1 : (k : Int) < 7 := by omega
      clear hx hxz hrd
      go_wp2_with fail
      refine (SR.out _ HO.out).mono ?_
      rintro e w8 ⟨rfl, oo⟩
      have A1 := Lib.hid (At.new w8 58 [.int .i64 v, .int .i64 u])
      have H1 := Lib.hid ((HA.out.only oo (fun h => h)).alloc (.cells [.int .i64 v, .int .i64 u].toArray 58))
      have O1 := Lib.hid ((HO.out.trans oo (fun _ _ h => h)).alloc (.cells [.int .i64 v, .int .i64 u].toArray 58))
      clear oo c0
      go_wp2_with fail
      refine (RR.out _).mono ?_
      rintro e w9 ⟨rfl, oo⟩
      have A2 := Lib.hid (At.new w9 58 [.int .i64 v, .int .i64 u])
      replace A1 := Lib.hid ((A1.out.only oo (fun h => h)).alloc (.cells [.int .i64 v, .int .i64 u].toArray 58))
      replace H1 := Lib.hid ((H1.out.only oo (fun h => h)).alloc (.cells [.int .i64 v, .int .i64 u].toArray 58))
      replace O1 := Lib.hid ((O1.out.trans oo (fun _ _ h => h)).alloc (.cells [.int .i64 v, .int .i64 u].toArray 58))
      clear oo
      have c0 := A1.out.cell (i := 0) rfl
      have c1 := A1.out.cell (i := 1) rfl
      have d0 := A2.out.cell (i := 0) rfl
      have d1 := A2.out.cell (i := 1) rfl
      cases b
      · go_wp2_with (refine wpl_bin (o := ⟨some 84, _, _, _, _, _⟩) rfl .neq 58 58 (.tmp 82) (.tmp 83) rfl _ _ _ rfl rfl (nguard_proof _ _ _ _ _ _ _) (neq_proof_same _ _ _) ?_)
        clear c0 c1 d0 d1
        go_roundw
        case rel => exact ⟨k + 1, by omega, by go_num, H1, O1⟩
        case measure => simp [intOf]; omega
      · go_wp2_with (refine wpl_bin (o := ⟨some 84, _, _, _, _, _⟩) rfl .neq 58 58 (.tmp 82) (.tmp 83) rfl _ _ _ rfl rfl (nguard_proof _ _ _ _ _ _ _) (neq_proof_same _ _ _) ?_)
        clear c0 c1 d0 d1
        go_roundw
        case rel => exact ⟨k + 1, by omega, by go_num, H1, O1⟩
        case measure => simp [intOf]; omega
    · obtain rfl : k = 7 := by omega
      go_wp2_with fail
      go_ret
      exact ⟨rfl, HO.out⟩
end Go.Proofs.YtoekhpnapnhefaaDoor

namespace Go.Proofs.YtoekhpnapnhefaaDoor
open Go.ChangeShapes Go.WideShapes Go.ChangeAt Go.RowKit
set_option linter.unusedVariables false
set_option linter.unusedSimpArgs false

theorem equalTexts_walk (W : World) (vals : Ty.Vals [prTy, .str, .arr 2 (.int .u16)]) (args : List Value) (h : ArgsHold W [prTy, .str, .arr 2 (.int .u16)] vals args) (hs : SmallAll [prTy, .str, .arr 2 (.int .u16)] vals) (hL : laidMetH Tryd.prog Rows.equalTextsRow.laid W) (hO : W.ShapedOpen Tryd.prog) :
    Calls Tryd.prog 7 args.toArray W fun e W' => e = .returned (.bool true) ∧ Below W.heap.size W W' := by
  obtain ⟨p, raw, q, _⟩ := vals
  obtain ⟨c0, v0, r0, rfl, h0, i0, c1, v1, r1, rfl, h1, i1, c2, v2, r2, rfl, h2, i2, rfl⟩ := h
  obtain ⟨rfl, k0, k1⟩ := pr_arg h0 i0
  obtain rfl : v1 = .string raw := str_arg h1 i1
  obtain ⟨a, b, rfl, ka, kb⟩ := two16_arg h2 i2
  have hz : raw.size ≤ reachBytes := hs.2.1
  refine (equalTexts_any p.1 p.2.1 raw a b W (tab_of hL) (maxL_of hO) (errV_of hL) k0 k1 ka kb (by unfold reachBytes at hz; omega)).mono ?_
  rintro e w' ⟨h1, o⟩
  exact ⟨h1, o.below (fun _ h => h.elim) (Nat.le_refl _)⟩
theorem equalTexts_reads (os : Os) {H : Type} (enc : TypeId × Value → H) : ∃ places, DataW.whole enc Tryd.prog ((laidWorld os).forCall (fun _ _ => 0) ⟨#[], #[.agg #[.int .i64 0, .int .i64 0], .string ⟨#[]⟩, .agg #[.int .u16 0, .int .u16 0]], []⟩).memory Tryd.f7.params.toList Rows.equalTextsSpec.vars false (#[.agg #[.int .i64 0, .int .i64 0], .string ⟨#[]⟩, .agg #[.int .u16 0, .int .u16 0]] : Array Value).toList 8 = some ([.agg [.lit (.int .i64 0), .lit (.int .i64 0)], .lit (.string []), .agg [.lit (.int .u16 0), .lit (.int .u16 0)]], [], places) :=
  ⟨[], by kernel_rfl⟩
set_option maxRecDepth 100000 in
theorem equalTexts_lifted (os : Os) (started : os.Started) (H : Type) (enc : TypeId × Value → H) (F : Stop.Interp) :
    ReturnsInHanded {} Tryd.checked os 7 .any ((OpenSpec.ofChange Rows.equalTextsSpec).preRow enc Tryd.prog Tryd.f7 Rows.equalTextsRow.domain false Rows.equalTextsRow.laid) (((OpenSpec.ofChange Rows.equalTextsSpec).at F).post enc Tryd.prog Tryd.f7 false true false false) := by
  obtain ⟨places, hx⟩ := equalTexts_reads os enc
  refine row_lifted 7 Tryd.f7 Rows.equalTextsSpec Rows.equalTextsRow.domain Rows.equalTextsRow.laid [prTy, .str, .arr 2 (.int .u16)] 4 os started H enc F Tryd.func7 (by kernel_rfl) rfl rfl (by kernel_rfl) Tryd.underlying4 (by kernel_rfl) (by kernel_rfl) ?_
    (witness_row_at (enc := enc) (C := Tryd.checked) false (laidWorld os) #[.agg #[.int .i64 0, .int .i64 0], .string ⟨#[]⟩, .agg #[.int .u16 0, .int .u16 0]] rfl (by kernel_rfl) (by kernel_rfl) (by kernel_rfl)
      (OpenSpec.preRow_of_cond 8 hx (by kernel_rfl) (fun k hk => by cases hk) (by kernel_rfl) (laid_met5 os _))) equalTexts_walk
  intro ds hd
  match ds, hd with
  | [d1, d2, d3], _ => rfl
theorem equalTexts_said : Rows.EqualTextsSaid :=
  OpenClaim.holds_of_cond 7 Tryd.f7 rfl rfl rfl rfl rfl rfl rfl ⟨rfl, rfl, rfl, rfl, rfl⟩ rfl rfl rfl rfl rfl (by kernel_rfl) Tryd.func7 (by kernel_rfl)
    (of_decide_eq_true (by kernel_rfl)) (by unfold Func.isWrapper; first | (rw [if_pos (by decide +kernel)]; kernel_rfl) | (rw [if_neg (by decide +kernel)]; exact ⟨rfl, rfl⟩))
    (fun os started H enc _ F => by rw [OpenClaim.pre_eq_preRow]; exact equalTexts_lifted os started H enc F)
theorem equalTexts_plain (f : FuncId) (fn : Func) (hf : Tryd.pinned.checked.prog.funcNamed "sortes/sorteslaw06.EqualTexts" = some f) (hfn : Tryd.pinned.checked.prog.funcs[f]? = some fn) :
    true = Tryd.pinned.checked.prog.looks [] ∧ ∀ (j : Nat) t, fn.params[j]? = some t → Tryd.pinned.checked.prog.wantsStandIn t = false := by
  obtain rfl : f = 7 := Option.some.inj ((show Tryd.prog.funcNamed "sortes/sorteslaw06.EqualTexts" = some 7 by kernel_rfl).symm.trans hf) |>.symm
  obtain rfl : fn = Tryd.f7 := (Option.some.inj (Tryd.func7.symm.trans hfn)).symm
  refine ⟨by kernel_rfl, fun j t ht => ?_⟩
  have hall : Tryd.f7.params.toList.all (fun t => Tryd.prog.wantsStandIn t == false) = true := by kernel_rfl
  have := List.all_eq_true.1 hall t (by simpa using Array.mem_of_getElem? ht)
  exact eq_of_beq this
theorem equalTexts_holds : Rows.EqualTextsCardSaid :=
  Claim7.holds_tied_plain_at .later [] _ _ _ _ equalTexts_said (fun _ h => by cases h) (by kernel_rfl) (fun _ h => by cases h) equalTexts_row_tie rfl ⟨rfl, rfl⟩ (by kernel_rfl) rfl equalTexts_plain (by kernel_rfl)
end Go.Proofs.YtoekhpnapnhefaaDoor
