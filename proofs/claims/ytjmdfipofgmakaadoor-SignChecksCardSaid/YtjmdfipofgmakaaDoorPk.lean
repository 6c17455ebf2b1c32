/-
  Powers modulo a number, prime numbers, Fermat's theorem, Pocklington's test; the primes of the group.
-/
namespace Go.Proofs.YtjmdfipofgmakaaDoor
set_option linter.unusedVariables false
set_option linter.unusedSimpArgs false

def IsPrime (p : Nat) : Prop := 1 < p ∧ ∀ d, d ∣ p → d = 1 ∨ d = p

theorem IsPrime.cop {p a : Nat} (h : IsPrime p) (ha : ¬ p ∣ a) : Nat.Coprime p a := by
  rcases h.2 _ (Nat.gcd_dvd_left p a) with h1 | h1
  · exact h1
  · exact absurd (h1 ▸ Nat.gcd_dvd_right p a) ha
theorem IsPrime.mul {p a b : Nat} (h : IsPrime p) (hd : p ∣ a * b) : p ∣ a ∨ p ∣ b := by
  rcases Decidable.em (p ∣ a) with h1 | h1
  · exact .inl h1
  · exact .inr ((h.cop h1).dvd_of_dvd_mul_left hd)
theorem IsPrime.of_pow {p a : Nat} (h : IsPrime p) : ∀ n, p ∣ a ^ n → p ∣ a
  | 0, hd => by have := Nat.le_of_dvd (by simp) hd; have := h.1; simp at *; omega
  | n + 1, hd => by
    rw [Nat.pow_succ] at hd
    rcases h.mul hd with h1 | h1
    · exact h.of_pow n h1
    · exact h1

theorem mod_eq_of_dvd {m a b : Nat} (h : a ≤ b) (hd : m ∣ b - a) : a % m = b % m := by
  obtain ⟨k, hk⟩ := hd
  have e : b = a + m * k := by omega
  rw [e, Nat.add_mul_mod_self_left]
theorem dvd_of_mod_eq {m a b : Nat} (h : a % m = b % m) : m ∣ b - a := Nat.dvd_of_mod_eq_zero (Nat.sub_mod_eq_zero_of_mod_eq h.symm)

/-- cancelling a factor that is coprime to the modulus -/
theorem mod_cancel {m c a b : Nat} (hc : Nat.Coprime m c) (h : c * a % m = c * b % m) : a % m = b % m := by
  rcases Nat.le_total a b with hab | hab
  · have h1 := dvd_of_mod_eq h
    rw [← Nat.mul_sub] at h1
    exact mod_eq_of_dvd hab (hc.dvd_of_dvd_mul_left h1)
  · have h1 := dvd_of_mod_eq h.symm
    rw [← Nat.mul_sub] at h1
    exact (mod_eq_of_dvd hab (hc.dvd_of_dvd_mul_left h1)).symm

theorem perm_of_nodup {α : Type} [DecidableEq α] : ∀ (l m : List α), l.Nodup → (∀ x ∈ l, x ∈ m) → l.length = m.length → l.Perm m
  | [], m, _, _, hl => by
    have : m = [] := List.eq_nil_of_length_eq_zero hl.symm
    subst this
    exact List.Perm.refl _
  | x :: l, m, hn, hs, hl => by
    have hx : x ∈ m := hs x (by simp)
    have hn' := List.nodup_cons.1 hn
    refine (List.Perm.cons x (perm_of_nodup l (m.erase x) hn'.2 (fun y hy => ?_) ?_)).trans (List.perm_cons_erase hx).symm
    · have hne : y ≠ x := by rintro rfl; exact hn'.1 hy
      exact (List.mem_erase_of_ne hne).2 (hs y (by simp [hy]))
    · rw [List.length_erase_of_mem hx]
      simp at hl
      omega

def prodL (l : List Nat) : Nat := l.foldr (· * ·) 1
theorem prodL_perm {l m : List Nat} (h : l.Perm m) : prodL l = prodL m := by
  induction h with
  | nil => rfl
  | cons x _ ih => simp only [prodL, List.foldr_cons] at *; rw [ih]
  | swap x y l => simp only [prodL, List.foldr_cons]; rw [Nat.mul_left_comm]
  | trans _ _ ih1 ih2 => exact ih1.trans ih2
theorem prodL_map (a m : Nat) : ∀ l : List Nat, prodL (l.map fun x => a * x % m) % m = a ^ l.length * prodL l % m
  | [] => by simp [prodL]
  | x :: l => by
    have ih := prodL_map a m l
    simp only [prodL, List.map_cons, List.foldr_cons, List.length_cons] at *
    rw [Nat.mul_mod, Nat.mod_mod, ih, ← Nat.mul_mod, Nat.pow_succ]
    congr 1
    simp only [Nat.mul_assoc, Nat.mul_left_comm]
theorem prodL_cop {p : Nat} (h : IsPrime p) : ∀ l : List Nat, (∀ x ∈ l, ¬ p ∣ x) → Nat.Coprime p (prodL l)
  | [], _ => by simp [prodL]
  | x :: l, hl => by
    have ih := prodL_cop h l (fun y hy => hl y (by simp [hy]))
    simp only [prodL, List.foldr_cons] at *
    exact Nat.Coprime.mul_right (h.cop (hl x (by simp))) ih

/-- Fermat -/
theorem fermat {p a : Nat} (h : IsPrime p) (ha : ¬ p ∣ a) : a ^ (p - 1) % p = 1 := by
  have h1 := h.1
  have hp : 0 < p := by omega
  let L := (List.range (p - 1)).map (· + 1)
  have hL : ∀ x, x ∈ L ↔ 0 < x ∧ x < p := by
    intro x
    simp only [L, List.mem_map, List.mem_range]
    exact ⟨fun ⟨y, hy, e⟩ => by omega, fun hx => ⟨x - 1, by omega, by omega⟩⟩
  have hnd : L.Nodup := by
    refine List.Pairwise.map _ (fun x y hne => ?_) List.nodup_range
    simpa using hne
  have hlen : L.length = p - 1 := by simp [L]
  have hdv : ∀ x, 0 < x → x < p → ¬ p ∣ x := fun x h0 h1 hd => by have := Nat.le_of_dvd h0 hd; omega
  have hperm : (L.map fun x => a * x % p).Perm L := by
    refine perm_of_nodup _ _ ?_ ?_ (by simp)
    · rw [List.nodup_iff_pairwise_ne] at *
      rw [List.pairwise_map]
      refine hnd.imp_of_mem ?_
      intro x y hx hy hne e
      have := mod_cancel (h.cop ha) e
      have hx' := (hL x).1 hx
      have hy' := (hL y).1 hy
      rw [Nat.mod_eq_of_lt hx'.2, Nat.mod_eq_of_lt hy'.2] at this
      exact hne this
    · intro y hy
      simp only [List.mem_map] at hy
      obtain ⟨x, hx, rfl⟩ := hy
      refine (hL _).2 ⟨?_, Nat.mod_lt _ hp⟩
      rcases Nat.eq_zero_or_pos (a * x % p) with h0 | h0
      · have hx' := (hL x).1 hx
        rcases h.mul (Nat.dvd_of_mod_eq_zero h0) with h2 | h2
        · exact absurd h2 ha
        · exact absurd h2 (hdv x hx'.1 hx'.2)
      · exact h0
  have e := prodL_map a p L
  rw [prodL_perm hperm, hlen] at e
  have hc : Nat.Coprime p (prodL L) := prodL_cop h L fun x hx => hdv x ((hL x).1 hx).1 ((hL x).1 hx).2
  have := mod_cancel (a := 1) (b := a ^ (p - 1)) hc (by rw [Nat.mul_one, Nat.mul_comm]; exact (Nat.mul_comm _ _ ▸ e))
  rw [← this, Nat.mod_eq_of_lt h1]

theorem pow_mod_one {m a n : Nat} (h : a ^ n % m = 1 % m) (k : Nat) : a ^ (n * k) % m = 1 % m := by
  rw [Nat.pow_mul, Nat.pow_mod, h, ← Nat.pow_mod, Nat.one_pow]
/-- two exponents with power 1: their common divisor has, too -/
theorem pow_gcd {m a : Nat} (x y : Nat) : a ^ x % m = 1 % m → a ^ y % m = 1 % m → a ^ (Nat.gcd x y) % m = 1 % m := by
  induction x, y using Nat.gcd.induction with
  | H0 n => intro _ h; rw [Nat.gcd_zero_left]; exact h
  | H1 x y hx ih =>
    intro h1 h2
    rw [Nat.gcd_rec]
    refine ih ?_ h1
    have e : a ^ y = a ^ (x * (y / x)) * a ^ (y % x) := by rw [← Nat.pow_add, Nat.div_add_mod]
    rw [e, Nat.mul_mod, pow_mod_one h1] at h2
    rw [← h2, ← Nat.mul_mod, Nat.one_mul]

/-- a number that has no divisor whose square is not greater is prime -/
theorem prime_of_small {n : Nat} (hn : 1 < n) (h : ∀ p, IsPrime p → p ∣ n → p * p ≤ n → False) : IsPrime n := by
  have fac : ∀ m, 1 < m → ∃ p, IsPrime p ∧ p ∣ m := by
    intro m
    induction m using Nat.strongRecOn with
    | ind m ih =>
      intro hm
      by_cases hp : IsPrime m
      · exact ⟨m, hp, Nat.dvd_refl _⟩
      · have : ¬ ∀ d, d ∣ m → d = 1 ∨ d = m := fun h => hp ⟨hm, h⟩
        have : ∃ d, d ∣ m ∧ d ≠ 1 ∧ d ≠ m := by
          apply Classical.byContradiction
          intro hne
          exact this fun d hd => by
            by_cases h1 : d = 1
            · exact .inl h1
            · by_cases h2 : d = m
              · exact .inr h2
              · exact absurd ⟨d, hd, h1, h2⟩ hne
        obtain ⟨d, hd, h1, h2⟩ := this
        have hle := Nat.le_of_dvd (by omega) hd
        have h0 : d ≠ 0 := by rintro rfl; have := Nat.eq_zero_of_zero_dvd hd; omega
        obtain ⟨p, hp1, hp2⟩ := ih d (by omega) (by omega)
        exact ⟨p, hp1, Nat.dvd_trans hp2 hd⟩
  refine ⟨hn, fun d hd => ?_⟩
  apply Classical.byContradiction
  intro hne
  have h1 : d ≠ 1 := fun e => hne (.inl e)
  have h2 : d ≠ n := fun e => hne (.inr e)
  obtain ⟨e, rfl⟩ := hd
  have hd0 : d ≠ 0 := by rintro rfl; omega
  have he0 : e ≠ 0 := by rintro rfl; simp at hn
  have he1 : e ≠ 1 := by rintro rfl; simp at h2
  rcases Nat.le_total d e with hle | hle
  · obtain ⟨p, hp, hpd⟩ := fac d (by omega)
    have := Nat.le_of_dvd (by omega) hpd
    exact h p hp (Nat.dvd_trans hpd (Nat.dvd_mul_right _ _)) (Nat.mul_le_mul this (by omega))
  · obtain ⟨p, hp, hpe⟩ := fac e (by omega)
    have := Nat.le_of_dvd (by omega) hpe
    exact h p hp (Nat.dvd_trans hpe (Nat.dvd_mul_left _ _)) (Nat.mul_le_mul (by omega) this)

/-- Pocklington -/
theorem pocklington {n q r a : Nat} (hn : 1 < n) (hq : IsPrime q) (e : n - 1 = q * r) (hlt : n < (q + 1) * (q + 1)) (h1 : a ^ (n - 1) % n = 1) (h2 : Nat.gcd (a ^ r % n + (n - 1)) n = 1) : IsPrime n := by
  refine prime_of_small hn fun p hp hpn hpp => ?_
  have hp1 := hp.1
  have hmp : ∀ {x y : Nat}, x % n = y % n → x % p = y % p := fun {x y} h => by
    have := congrArg (· % p) h
    simpa [Nat.mod_mod_of_dvd _ hpn] using this
  have g1 : a ^ (n - 1) % p = 1 % p := hmp (by rw [h1, Nat.mod_eq_of_lt hn])
  have ha : ¬ p ∣ a := fun hd => by
    have h0 : a ^ (n - 1) % p = 0 := Nat.mod_eq_zero_of_dvd (Nat.dvd_trans hd ⟨a ^ (n - 1 - 1), by rw [← Nat.pow_succ']; congr 1; omega⟩)
    rw [h0, Nat.mod_eq_of_lt hp1] at g1
    omega
  have hf : a ^ (p - 1) % p = 1 % p := by rw [fermat hp ha, Nat.mod_eq_of_lt hp1]
  by_cases hqp : q ∣ p - 1
  · have := Nat.le_of_dvd (by omega) hqp
    have : (q + 1) * (q + 1) ≤ p * p := Nat.mul_le_mul (by omega) (by omega)
    omega
  · have hg := pow_gcd _ _ g1 hf
    have hd : Nat.gcd (n - 1) (p - 1) ∣ r := by
      have c : Nat.Coprime (Nat.gcd (n - 1) (p - 1)) q := by
        refine Nat.Coprime.symm (hq.cop fun hd => hqp (Nat.dvd_trans hd (Nat.gcd_dvd_right _ _)))
      refine c.dvd_of_dvd_mul_left ?_
      rw [← e]
      exact Nat.gcd_dvd_left _ _
    obtain ⟨k, hk⟩ := hd
    have hr : a ^ r % p = 1 % p := by rw [hk]; exact pow_mod_one hg k
    have : p ∣ a ^ r % n + (n - 1) := by
      have e1 : (a ^ r % n + (n - 1)) % p = 0 := by
        rw [Nat.add_mod, Nat.mod_mod_of_dvd _ hpn, hr, ← Nat.add_mod]
        rw [show 1 + (n - 1) = n by omega]
        exact Nat.mod_eq_zero_of_dvd hpn
      exact Nat.dvd_of_mod_eq_zero e1
    have := Nat.dvd_gcd this hpn
    rw [h2] at this
    have := Nat.le_of_dvd (by omega) this
    omega

/-- powers, by squaring -/
def pw (m : Nat) : Nat → Nat → Nat → Nat
  | 0, _, _ => 1 % m
  | f + 1, a, n => match n with
    | 0 => 1 % m
    | n + 1 => if (n + 1) % 2 = 1 then pw m f (a * a % m) ((n + 1) / 2) * a % m else pw m f (a * a % m) ((n + 1) / 2)
theorem pw_eq (m : Nat) : ∀ f a n, n < 2 ^ f → pw m f a n = a ^ n % m
  | 0, a, n, h => by
    have : n = 0 := by simp at h; omega
    subst this; simp [pw]
  | f + 1, a, 0, _ => by simp [pw]
  | f + 1, a, n + 1, h => by
    have ih := pw_eq m f (a * a % m) ((n + 1) / 2) (by rw [Nat.pow_succ] at h; omega)
    have e : (a * a % m) ^ ((n + 1) / 2) % m = a ^ (2 * ((n + 1) / 2)) % m := by
      rw [← Nat.pow_mod, ← Nat.pow_two, ← Nat.pow_mul]
    simp only [pw, ih, e]
    by_cases h2 : (n + 1) % 2 = 1
    · rw [if_pos h2, Nat.mod_mul_mod, ← Nat.pow_succ]
      congr 2
      omega
    · rw [if_neg h2]
      congr 2
      omega

theorem pocklington' (n q r a f : Nat) (hn : 1 < n) (hq : IsPrime q) (e : n - 1 = q * r) (hlt : n < (q + 1) * (q + 1)) (hf : n < 2 ^ f) (h1 : pw n f a (n - 1) = 1) (h2 : Nat.gcd (pw n f a r + (n - 1)) n = 1) : IsPrime n := by
  rw [pw_eq _ _ _ _ (by omega)] at h1
  have hr : r < 2 ^ f := by
    have := hq.1
    have : 1 * r ≤ q * r := Nat.mul_le_mul_right r (by omega)
    omega
  rw [pw_eq _ _ _ _ hr] at h2
  exact pocklington hn hq e hlt h1 h2

def noDiv (n : Nat) : Nat → Bool
  | 0 => true
  | k + 1 => (if 2 ≤ k then n % k != 0 else true) && noDiv n k
theorem prime_of_noDiv {n : Nat} (hn : 1 < n) (h : noDiv n n = true) : IsPrime n := by
  have : ∀ m, noDiv n m = true → ∀ k, 2 ≤ k → k < m → n % k ≠ 0 := by
    intro m
    induction m with
    | zero => intro _ k _ hk; omega
    | succ m ih =>
      intro h k h2 hk
      simp only [noDiv, Bool.and_eq_true] at h
      rcases Nat.lt_or_ge k m with h3 | h3
      · exact ih h.2 k h2 h3
      · obtain rfl : k = m := by omega
        have := h.1
        rw [if_pos h2] at this
        simpa using this
  refine ⟨hn, fun d hd => ?_⟩
  have hle := Nat.le_of_dvd (by omega) hd
  rcases Nat.lt_or_ge d 2 with h2 | h2
  · have h0 : d ≠ 0 := by rintro rfl; have := Nat.eq_zero_of_zero_dvd hd; omega
    omega
  · rcases Nat.lt_or_ge d n with h3 | h3
    · exact absurd (Nat.mod_eq_zero_of_dvd hd) (this n h d h2 h3)
    · omega

theorem prime449 : IsPrime 449 := prime_of_noDiv (by decide) (by decide +kernel)
theorem prime95189 : IsPrime 95189 := pocklington' 95189 449 212 2 20 (by decide) prime449 (by decide +kernel) (by decide +kernel) (by decide +kernel) (by decide +kernel) (by decide +kernel)
theorem prime2835870689 : IsPrime 2835870689 := pocklington' 2835870689 95189 29792 3 40 (by decide) prime95189 (by decide +kernel) (by decide +kernel) (by decide +kernel) (by decide +kernel) (by decide +kernel)
theorem prime5671741379 : IsPrime 5671741379 := pocklington' 5671741379 2835870689 2 2 40 (by decide) prime2835870689 (by decide +kernel) (by decide +kernel) (by decide +kernel) (by decide +kernel) (by decide +kernel)
theorem primeR : IsPrime 288230376151711447 := pocklington' 288230376151711447 5671741379 50818674 2 64 (by decide) prime5671741379 (by decide +kernel) (by decide +kernel) (by decide +kernel) (by decide +kernel) (by decide +kernel)

def gQ : Nat := 1152921504606845789
def gP : Nat := 2305843009213691579
theorem primeQ : IsPrime gQ := pocklington' gQ 288230376151711447 4 2 64 (by decide +kernel) primeR (by decide +kernel) (by decide +kernel) (by decide +kernel) (by decide +kernel) (by decide +kernel)
theorem primeP : IsPrime gP := pocklington' gP gQ 2 2 64 (by decide +kernel) primeQ (by decide +kernel) (by decide +kernel) (by decide +kernel) (by decide +kernel) (by decide +kernel)
end Go.Proofs.YtjmdfipofgmakaaDoor
