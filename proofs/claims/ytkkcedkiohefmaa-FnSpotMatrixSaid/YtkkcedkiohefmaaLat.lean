/- Plain number theory of a lattice's points, names and distances (no program in sight). -/
namespace Go.Proofs.Ytkkcedkiohefmaa.Lat

/-- the area -/
def ar (a b : Int) : Int := a * a + b * b
/-- a point of the lattice -/
def hold (a b x y : Int) : Prop := ar a b ∣ x * a + y * b ∧ ar a b ∣ y * a - x * b
instance (a b x y : Int) : Decidable (hold a b x y) := inferInstanceAs (Decidable (_ ∧ _))

theorem dvd_lin {n p q r : Int} (s t : Int) (hp : n ∣ p) (hq : n ∣ q) (h : r = s * p + t * q) : n ∣ r := by
  subst h; exact Int.dvd_add (Int.dvd_mul_of_dvd_right hp) (Int.dvd_mul_of_dvd_right hq)

theorem hold_add {a b x y u v : Int} (h : hold a b x y) (k : hold a b u v) : hold a b (x + u) (y + v) :=
  ⟨dvd_lin 1 1 h.1 k.1 (by grind), dvd_lin 1 1 h.2 k.2 (by grind)⟩
theorem hold_sub {a b x y u v : Int} (h : hold a b x y) (k : hold a b u v) : hold a b (x - u) (y - v) :=
  ⟨dvd_lin 1 (-1) h.1 k.1 (by grind), dvd_lin 1 (-1) h.2 k.2 (by grind)⟩
theorem hold_of (a b i j : Int) : hold a b (i * a - j * b) (i * b + j * a) :=
  ⟨⟨i, by unfold ar; grind⟩, ⟨j, by unfold ar; grind⟩⟩
/-- what differs by a multiple of the area -/
theorem hold_shift (a b x y s t : Int) : hold a b (x + ar a b * s) (y + ar a b * t) ↔ hold a b x y := by
  have k : hold a b (ar a b * s) (ar a b * t) := ⟨⟨s * a + t * b, by grind⟩, ⟨t * a - s * b, by grind⟩⟩
  constructor
  · intro h; have := hold_sub h k; simpa [Int.add_sub_cancel] using this
  · intro h; exact hold_add h k
theorem hold_swap (a b x y : Int) : hold b a y x ↔ hold a b x y := by
  have e : ar b a = ar a b := by unfold ar; grind
  unfold hold; rw [e]
  constructor
  · rintro ⟨h, k⟩; exact ⟨by simpa [Int.add_comm] using h, dvd_lin (-1) 0 k h (by grind)⟩
  · rintro ⟨h, k⟩; exact ⟨by simpa [Int.add_comm] using h, dvd_lin (-1) 0 k h (by grind)⟩
theorem hold_turn {a b x y : Int} (h : hold a b x y) : hold a b (-y) x :=
  ⟨dvd_lin (-1) 0 h.2 h.1 (by grind), dvd_lin 1 0 h.1 h.2 (by grind)⟩

/-- Bezout -/
theorem bez (m n : Nat) : ∃ p q : Int, p * m + q * n = Nat.gcd m n := by
  induction m, n using Nat.gcd.induction with
  | H0 n => exact ⟨0, 1, by simp⟩
  | H1 m n hm ih =>
    obtain ⟨p, q, h⟩ := ih
    refine ⟨q - p * (n / m : Nat), p, ?_⟩
    rw [Nat.gcd_rec, ← h]
    have : ((n % m : Nat) : Int) = n - m * (n / m : Nat) := by
      have := Nat.div_add_mod n m
      omega
    rw [this]; grind

def g (a b : Int) : Int := (Int.gcd a b : Int)
def row (a b : Int) : Int := ar a b / g a b

variable {a b : Int}
theorem g_pos (ha : 1 ≤ a) : 1 ≤ g a b := by
  have : 0 < Int.gcd a b := Int.gcd_pos_of_ne_zero_left b (by omega)
  unfold g; omega
theorem g_dvd_ar : g a b ∣ ar a b := dvd_lin a b (Int.gcd_dvd_left ..) (Int.gcd_dvd_right ..) rfl
theorem row_mul : g a b * row a b = ar a b := Int.mul_ediv_cancel' g_dvd_ar
theorem row_mul' : row a b * g a b = ar a b := by rw [Int.mul_comm]; exact row_mul
theorem ar_pos (ha : 1 ≤ a) : 1 ≤ ar a b := by
  unfold ar
  have h1 : 0 < a * a := Int.mul_pos (by omega) (by omega)
  have h2 : 0 ≤ b * b := by rcases Int.le_total 0 b with h | h; exact Int.mul_nonneg h h; have := Int.mul_nonneg (show 0 ≤ -b by omega) (show 0 ≤ -b by omega); rwa [Int.neg_mul_neg] at this
  omega
theorem row_pos (ha : 1 ≤ a) : 1 ≤ row a b := by
  have h1 := ar_pos (b := b) ha; have h2 := g_pos (b := b) ha; have h3 := row_mul (a := a) (b := b)
  by_cases h : 1 ≤ row a b; exact h
  have : g a b * row a b ≤ 0 := Int.mul_nonpos_of_nonneg_of_nonpos (by omega) (by omega)
  omega
theorem hold_right (ha : 1 ≤ a) (k : Int) : hold a b k 0 ↔ row a b ∣ k := by
  have e : hold a b k 0 ↔ ar a b ∣ k * a ∧ ar a b ∣ k * b := by
    unfold hold; constructor
    · rintro ⟨h1, h2⟩; exact ⟨by simpa using h1, by simpa using h2⟩
    · rintro ⟨h1, h2⟩; exact ⟨by simpa using h1, by simpa using h2⟩
  rw [e]
  have hg := g_pos (b := b) ha
  constructor
  · rintro ⟨h1, h2⟩
    have h := Int.dvd_coe_gcd h1 h2
    rw [Int.gcd_mul_left] at h
    rw [← row_mul] at h
    have h' : row a b * g a b ∣ (k.natAbs : Int) * g a b := by unfold g at *; simpa [Int.mul_comm] using h
    have := Int.dvd_of_mul_dvd_mul_right (by omega) h'
    exact Int.dvd_natAbs.mp this
  · rintro ⟨s, rfl⟩
    obtain ⟨a', ha'⟩ : g a b ∣ a := Int.gcd_dvd_left ..
    obtain ⟨b', hb'⟩ : g a b ∣ b := Int.gcd_dvd_right ..
    constructor
    · refine ⟨s * a', ?_⟩; rw [← row_mul]; calc row a b * s * a = row a b * s * (g a b * a') := by rw [← ha']
        _ = _ := by grind
    · refine ⟨s * b', ?_⟩; rw [← row_mul]; calc row a b * s * b = row a b * s * (g a b * b') := by rw [← hb']
        _ = _ := by grind
theorem hold_y (ha : 1 ≤ a) {x y : Int} (h : hold a b x y) : g a b ∣ y := by
  obtain ⟨⟨s, h1⟩, ⟨t, h2⟩⟩ := h
  have e : ar a b * y = ar a b * (s * b + t * a) := by
    have : ar a b * y = b * (x * a + y * b) + a * (y * a - x * b) := by unfold ar; grind
    rw [this, h1, h2]; grind
  have : y = s * b + t * a := Int.eq_of_mul_eq_mul_left (by have := ar_pos (b := b) ha; omega) e
  exact dvd_lin s t (Int.gcd_dvd_right ..) (Int.gcd_dvd_left ..) this
theorem exists_y (ha : 1 ≤ a) (hb : 0 ≤ b) : ∃ x, hold a b x (g a b) := by
  obtain ⟨p, q, h⟩ := bez a.natAbs b.natAbs
  refine ⟨q * a - p * b, ?_⟩
  have : g a b = q * b + p * a := by
    have e1 : (a.natAbs : Int) = a := by omega
    have e2 : (b.natAbs : Int) = b := by omega
    rw [e1, e2] at h; unfold g Int.gcd; omega
  rw [this]; exact hold_of a b q p
theorem hold_mul {x y : Int} (h : hold a b x y) (t : Int) : hold a b (t * x) (t * y) :=
  ⟨dvd_lin t 0 h.1 h.2 (by grind), dvd_lin t 0 h.2 h.1 (by grind)⟩
/-- each point has a name -/
theorem named (ha : 1 ≤ a) (hb : 0 ≤ b) (x y : Int) : ∃ u v, 0 ≤ u ∧ u < row a b ∧ 0 ≤ v ∧ v < g a b ∧ hold a b (x - u) (y - v) := by
  have hg := g_pos (b := b) ha; have hr := row_pos (b := b) ha
  obtain ⟨c, hc⟩ := exists_y ha hb
  have h1 := hold_mul hc (y / g a b)
  have ey : y - y % g a b = y / g a b * g a b := by have := Int.mul_ediv_add_emod y (g a b); rw [Int.mul_comm]; omega
  refine ⟨(x - y / g a b * c) % row a b, y % g a b, Int.emod_nonneg _ (by omega), Int.emod_lt_of_pos _ (by omega), Int.emod_nonneg _ (by omega), Int.emod_lt_of_pos _ (by omega), ?_⟩
  have h2 : hold a b ((x - y / g a b * c) - (x - y / g a b * c) % row a b) 0 := (hold_right ha _).mpr (by
    refine ⟨(x - y / g a b * c) / row a b, ?_⟩
    have := Int.mul_ediv_add_emod (x - y / g a b * c) (row a b); omega)
  have := hold_add h1 h2
  rw [ey]; rwa [show y / g a b * c + (x - y / g a b * c - (x - y / g a b * c) % row a b) = x - (x - y / g a b * c) % row a b by omega, Int.add_zero] at this
theorem small_dvd {n d : Int} (h : n ∣ d) (h1 : -n < d) (h2 : d < n) : d = 0 := by
  obtain ⟨c, rfl⟩ := h
  have hn : 0 < n := by omega
  rcases Int.lt_trichotomy c 0 with hc | hc | hc
  · have : n * c ≤ n * (-1) := Int.mul_le_mul_of_nonneg_left (by omega) (by omega); omega
  · simp [hc]
  · have : n * 1 ≤ n * c := Int.mul_le_mul_of_nonneg_left (by omega) (by omega); omega
/-- and only one -/
theorem named_one (ha : 1 ≤ a) {x y u v u' v' : Int} (hu : 0 ≤ u) (hu2 : u < row a b) (hv : 0 ≤ v) (hv2 : v < g a b) (hu' : 0 ≤ u') (hu2' : u' < row a b) (hv' : 0 ≤ v') (hv2' : v' < g a b)
    (h : hold a b (x - u) (y - v)) (h' : hold a b (x - u') (y - v')) : u = u' ∧ v = v' := by
  have k := hold_sub h h'
  rw [show x - u - (x - u') = u' - u by omega, show y - v - (y - v') = v' - v by omega] at k
  have e := small_dvd (hold_y ha k) (by omega) (by omega)
  rw [e] at k
  have e2 := small_dvd ((hold_right ha _).mp k) (by omega) (by omega)
  omega

/-- the first name from j on, d names left -/
def scan (a b x y : Int) : Nat → Int → Int
  | 0, _ => -1
  | d + 1, j => if hold a b (x - j % row a b) (y - j / row a b) then j else scan a b x y d (j + 1)
/-- the name of a point -/
def nm (a b x y : Int) : Int := scan a b x y (ar a b).toNat 0
theorem scan_finds (a b x y c : Int) : ∀ (d : Nat) (j : Int), j ≤ c → c < j + d → hold a b (x - c % row a b) (y - c / row a b) →
    j ≤ scan a b x y d j ∧ scan a b x y d j ≤ c ∧ hold a b (x - scan a b x y d j % row a b) (y - scan a b x y d j / row a b) := by
  intro d
  induction d with
  | zero => intro j h1 h2 _; omega
  | succ d ih =>
    intro j h1 h2 h
    unfold scan
    by_cases hj : hold a b (x - j % row a b) (y - j / row a b)
    · rw [if_pos hj]; exact ⟨Int.le_refl _, h1, hj⟩
    · rw [if_neg hj]
      have hne : j ≠ c := fun e => hj (e ▸ h)
      obtain ⟨k1, k2, k3⟩ := ih (j + 1) (by omega) (by omega) h
      exact ⟨by omega, k2, k3⟩
theorem scan_congr {a b x y x' y' : Int} (h : ∀ u v, hold a b (x - u) (y - v) ↔ hold a b (x' - u) (y' - v)) : ∀ (d : Nat) (j : Int), scan a b x y d j = scan a b x' y' d j := by
  intro d
  induction d with
  | zero => intro j; rfl
  | succ d ih => intro j; unfold scan; rw [ih]; simp only [h]
theorem split_name {u v r : Int} (hu : 0 ≤ u) (h : u < r) : (v * r + u) % r = u ∧ (v * r + u) / r = v := by
  constructor
  · rw [Int.add_comm, Int.add_mul_emod_self_right, Int.emod_eq_of_lt hu h]
  · rw [Int.add_comm, Int.add_mul_ediv_right _ _ (by omega), Int.ediv_eq_zero_of_lt hu h]; omega
theorem name_lt {u v : Int} (hu : 0 ≤ u) (hu2 : u < row a b) (hv : 0 ≤ v) (hv2 : v < g a b) : 0 ≤ v * row a b + u ∧ v * row a b + u < ar a b := by
  have h1 : 0 ≤ v * row a b := Int.mul_nonneg hv (by omega)
  have h2 : v * row a b ≤ (g a b - 1) * row a b := Int.mul_le_mul_of_nonneg_right (by omega) (by omega)
  have h3 := row_mul (a := a) (b := b)
  rw [Int.sub_mul, h3] at h2
  omega
theorem nm_spec (ha : 1 ≤ a) (hb : 0 ≤ b) (x y : Int) : 0 ≤ nm a b x y ∧ nm a b x y < ar a b ∧ hold a b (x - nm a b x y % row a b) (y - nm a b x y / row a b) := by
  obtain ⟨u, v, hu, hu2, hv, hv2, h⟩ := named ha hb x y
  have hl := name_lt hu hu2 hv hv2
  have hs := split_name (v := v) hu hu2
  have h' : hold a b (x - (v * row a b + u) % row a b) (y - (v * row a b + u) / row a b) := by rw [hs.1, hs.2]; exact h
  have := scan_finds a b x y (v * row a b + u) (ar a b).toNat 0 hl.1 (by omega) h'
  unfold nm; exact ⟨this.1, by omega, this.2.2⟩
theorem name_parts (ha : 1 ≤ a) {k : Int} (h0 : 0 ≤ k) (h1 : k < ar a b) : 0 ≤ k % row a b ∧ k % row a b < row a b ∧ 0 ≤ k / row a b ∧ k / row a b < g a b := by
  have hr := row_pos (b := b) ha
  refine ⟨Int.emod_nonneg _ (by omega), Int.emod_lt_of_pos _ (by omega), Int.ediv_nonneg h0 (by omega), ?_⟩
  apply Int.ediv_lt_of_lt_mul (by omega)
  rw [row_mul]; exact h1
/-- a name that fits is the name -/
theorem nm_unique (ha : 1 ≤ a) (hb : 0 ≤ b) {x y k : Int} (h0 : 0 ≤ k) (h1 : k < ar a b) (h : hold a b (x - k % row a b) (y - k / row a b)) : nm a b x y = k := by
  obtain ⟨n0, n1, n2⟩ := nm_spec ha hb x y
  obtain ⟨p1, p2, p3, p4⟩ := name_parts (b := b) ha h0 h1
  obtain ⟨q1, q2, q3, q4⟩ := name_parts (b := b) ha n0 n1
  have := named_one ha q1 q2 q3 q4 p1 p2 p3 p4 n2 h
  have e1 := Int.mul_ediv_add_emod k (row a b)
  have e2 := Int.mul_ediv_add_emod (nm a b x y) (row a b)
  rw [← e1, ← e2, this.1, this.2]
theorem nm_shift {x y u v : Int} (h : hold a b u v) : nm a b (x + u) (y + v) = nm a b x y := by
  unfold nm; apply scan_congr
  intro p q
  constructor
  · intro k; have := hold_sub k h; rwa [show x + u - p - u = x - p by omega, show y + v - q - v = y - q by omega] at this
  · intro k; have := hold_add k h; rwa [show x - p + u = x + u - p by omega, show y - q + v = y + v - q by omega] at this
theorem nm_zero (ha : 1 ≤ a) (hb : 0 ≤ b) (x y : Int) : nm a b x y = 0 ↔ hold a b x y := by
  have hn := ar_pos (b := b) ha
  constructor
  · intro h; have := (nm_spec ha hb x y).2.2; rw [h] at this; simpa using this
  · intro h; exact nm_unique ha hb (by omega) (by omega) (by simpa using h)

/-- the least: -1 stands for none -/
def upd (best s : Int) : Int := if best < 0 then s else if s < best then s else best
theorem fold_upd (L : List Int) : ∀ best : Int, (∀ s ∈ L, 0 ≤ s) → 0 ≤ best → (L.foldl upd best = best ∨ L.foldl upd best ∈ L) ∧ L.foldl upd best ≤ best ∧ (∀ s ∈ L, L.foldl upd best ≤ s) ∧ 0 ≤ L.foldl upd best := by
  induction L with
  | nil => intro best _ h; simp [h]
  | cons x L ih =>
    intro best hs h
    have hx : 0 ≤ x := hs x (by simp)
    have hu : upd best x ≤ best ∧ upd best x ≤ x ∧ (upd best x = best ∨ upd best x = x) := by unfold upd; rw [if_neg (by omega)]; split <;> omega
    obtain ⟨i1, i2, i3, i4⟩ := ih (upd best x) (fun s h => hs s (by simp [h])) (by omega)
    simp only [List.foldl_cons]
    refine ⟨?_, by omega, ?_, i4⟩
    · rcases i1 with i1 | i1
      · rcases hu.2.2 with e | e
        · left; omega
        · right; rw [i1, e]; simp
      · right; simp [i1]
    · intro s hs'
      rcases List.mem_cons.mp hs' with e | e
      · subst e; omega
      · exact i3 s e
theorem fold_least (L : List Int) (hne : L ≠ []) (hs : ∀ s ∈ L, 0 ≤ s) : L.foldl upd (-1) ∈ L ∧ ∀ s ∈ L, L.foldl upd (-1) ≤ s := by
  cases L with
  | nil => exact absurd rfl hne
  | cons x L =>
    have e : upd (-1) x = x := by unfold upd; simp
    simp only [List.foldl_cons, e]
    obtain ⟨i1, i2, i3, _⟩ := fold_upd L x (fun s h => hs s (by simp [h])) (hs x (by simp))
    refine ⟨?_, ?_⟩
    · rcases i1 with i1 | i1
      · rw [i1]; simp
      · simp [i1]
    · intro s hs'
      rcases List.mem_cons.mp hs' with e | e
      · subst e; omega
      · exact i3 s e
/-- the squared distance of u, v from a point of the lattice -/
def val (a b u v p q : Int) : Int := (u - (p * a - q * b)) * (u - (p * a - q * b)) + (v - (p * b + q * a)) * (v - (p * b + q * a))
theorem sq_nonneg (x : Int) : 0 ≤ x * x := by
  rcases Int.le_total 0 x with h | h
  · exact Int.mul_nonneg h h
  · have := Int.mul_nonneg (show 0 ≤ -x by omega) (show 0 ≤ -x by omega); rwa [Int.neg_mul_neg] at this
theorem val_nonneg (a b u v p q : Int) : 0 ≤ val a b u v p q := by
  have h1 := sq_nonneg (u - (p * a - q * b)); have h2 := sq_nonneg (v - (p * b + q * a)); unfold val; omega
theorem val_area (a b u v p q : Int) : ar a b * val a b u v p q = (u * a + v * b - p * ar a b) * (u * a + v * b - p * ar a b) + (v * a - u * b - q * ar a b) * (v * a - u * b - q * ar a b) := by
  unfold val ar; grind
/-- the distance of a number from the next multiple -/
def near1 (n p : Int) : Int := if p % n ≤ n - p % n then p % n else n - p % n
theorem near1_nonneg {n : Int} (hn : 0 < n) (p : Int) : 0 ≤ near1 n p := by
  have h1 := Int.emod_nonneg p (show n ≠ 0 by omega); have h2 := Int.emod_lt_of_pos p hn
  unfold near1; split <;> omega
theorem near1_at {n : Int} (p : Int) : ∃ c, (c = p / n ∨ c = p / n + 1) ∧ (p - c * n) * (p - c * n) = near1 n p * near1 n p := by
  have e := Int.mul_ediv_add_emod p n
  unfold near1
  by_cases h : p % n ≤ n - p % n
  · refine ⟨p / n, .inl rfl, ?_⟩
    rw [if_pos h, show p - p / n * n = p % n by rw [Int.mul_comm]; omega]
  · refine ⟨p / n + 1, .inr rfl, ?_⟩
    rw [if_neg h, show p - (p / n + 1) * n = -(n - p % n) by rw [Int.add_mul, Int.mul_comm]; omega, Int.neg_mul_neg]
theorem sq_le_sq {x y : Int} (h0 : 0 ≤ x) (h : x ≤ y ∨ x ≤ -y) : x * x ≤ y * y := by
  rcases h with h | h
  · exact Int.le_trans (Int.mul_le_mul_of_nonneg_right h h0) (Int.mul_le_mul_of_nonneg_left h (by omega))
  · have := Int.le_trans (Int.mul_le_mul_of_nonneg_right h h0) (Int.mul_le_mul_of_nonneg_left h (by omega))
    rwa [Int.neg_mul_neg] at this
theorem near1_le {n : Int} (hn : 0 < n) (p c : Int) : near1 n p * near1 n p ≤ (p - c * n) * (p - c * n) := by
  apply sq_le_sq (near1_nonneg hn p)
  have e := Int.mul_ediv_add_emod p n
  have h1 := Int.emod_nonneg p (show n ≠ 0 by omega); have h2 := Int.emod_lt_of_pos p hn
  rcases Int.lt_or_le (p / n) c with h | h
  · right
    have : n * (p / n + 1) ≤ n * c := Int.mul_le_mul_of_nonneg_left (by omega) (by omega)
    rw [Int.mul_add] at this
    unfold near1; rw [Int.mul_comm c n]; split <;> omega
  · left
    have : n * c ≤ n * (p / n) := Int.mul_le_mul_of_nonneg_left h (by omega)
    unfold near1; rw [Int.mul_comm c n]; split <;> omega
/-- the squared distance from the lattice, times the area -/
def near2 (a b u v : Int) : Int := near1 (ar a b) (u * a + v * b) * near1 (ar a b) (u * a + v * b) + near1 (ar a b) (v * a - u * b) * near1 (ar a b) (v * a - u * b)
/-- values over a set of points that holds the next ones: the least is the distance -/
theorem least_near (ha : 1 ≤ a) {u v : Int} (L : List Int) (hin : ∀ s ∈ L, ∃ p q, s = val a b u v p q)
    (hhas : ∀ p q, (p = (u * a + v * b) / ar a b ∨ p = (u * a + v * b) / ar a b + 1) → (q = (v * a - u * b) / ar a b ∨ q = (v * a - u * b) / ar a b + 1) → val a b u v p q ∈ L) :
    ar a b * L.foldl upd (-1) = near2 a b u v := by
  have hn : 0 < ar a b := by have := ar_pos (b := b) ha; omega
  obtain ⟨c, hc, hc2⟩ := near1_at (n := ar a b) (u * a + v * b)
  obtain ⟨d, hd, hd2⟩ := near1_at (n := ar a b) (v * a - u * b)
  have hm := hhas c d hc hd
  have hne : L ≠ [] := fun e => by rw [e] at hm; simp at hm
  obtain ⟨h1, h2⟩ := fold_least L hne (fun s hs => by obtain ⟨p, q, rfl⟩ := hin s hs; exact val_nonneg ..)
  have e1 : ar a b * val a b u v c d = near2 a b u v := by rw [val_area, hc2, hd2]; rfl
  obtain ⟨p, q, hpq⟩ := hin _ h1
  have e2 := val_area a b u v p q
  have e3 := near1_le hn (u * a + v * b) p
  have e4 := near1_le hn (v * a - u * b) q
  have e5 : ar a b * L.foldl upd (-1) ≤ ar a b * val a b u v c d := Int.mul_le_mul_of_nonneg_left (h2 _ hm) (by omega)
  rw [← hpq] at e2
  unfold near2 at e1 ⊢
  omega
/-- the squared distance from the lattice -/
def near (a b u v : Int) : Int := near2 a b u v / ar a b
theorem least_near' (ha : 1 ≤ a) {u v : Int} (L : List Int) (hin : ∀ s ∈ L, ∃ p q, s = val a b u v p q)
    (hhas : ∀ p q, (p = (u * a + v * b) / ar a b ∨ p = (u * a + v * b) / ar a b + 1) → (q = (v * a - u * b) / ar a b ∨ q = (v * a - u * b) / ar a b + 1) → val a b u v p q ∈ L) :
    L.foldl upd (-1) = near a b u v := by
  have hn : 0 < ar a b := by have := ar_pos (b := b) ha; omega
  unfold near; rw [← least_near ha L hin hhas, Int.mul_ediv_cancel_left _ (by omega)]
theorem near_area (ha : 1 ≤ a) (u v : Int) : ar a b * near a b u v = near2 a b u v := by
  have hn : 0 < ar a b := by have := ar_pos (b := b) ha; omega
  obtain ⟨c, _, hc2⟩ := near1_at (n := ar a b) (u * a + v * b)
  obtain ⟨d, _, hd2⟩ := near1_at (n := ar a b) (v * a - u * b)
  have e1 : near2 a b u v = ar a b * val a b u v c d := by rw [val_area, hc2, hd2]; rfl
  unfold near; rw [e1, Int.mul_ediv_cancel_left _ (by omega)]
theorem near1_zero {n : Int} (hn : 0 < n) (p : Int) : near1 n p * near1 n p = 0 ↔ n ∣ p := by
  have h1 := Int.emod_nonneg p (show n ≠ 0 by omega); have h2 := Int.emod_lt_of_pos p hn
  constructor
  · intro h
    have : near1 n p = 0 := by rcases Int.mul_eq_zero.mp h with e | e <;> exact e
    apply Int.dvd_of_emod_eq_zero
    unfold near1 at this; split at this <;> omega
  · intro h
    have : p % n = 0 := Int.emod_eq_zero_of_dvd h
    unfold near1; rw [this, if_pos (by omega)]; rfl
theorem near_zero (ha : 1 ≤ a) (u v : Int) : near a b u v = 0 ↔ hold a b u v := by
  have hn : 0 < ar a b := by have := ar_pos (b := b) ha; omega
  have e := near_area (b := b) ha u v
  have n1 := sq_nonneg (near1 (ar a b) (u * a + v * b)); have n2 := sq_nonneg (near1 (ar a b) (v * a - u * b))
  constructor
  · intro h
    rw [h, Int.mul_zero] at e
    unfold near2 at e
    exact ⟨(near1_zero hn _).mp (by omega), (near1_zero hn _).mp (by omega)⟩
  · rintro ⟨h1, h2⟩
    have k1 := (near1_zero hn _).mpr h1; have k2 := (near1_zero hn _).mpr h2
    unfold near near2; rw [k1, k2]; simp
theorem near1_congr {n p q : Int} (h : n ∣ p - q) : near1 n p = near1 n q := by
  have : p % n = q % n := Int.emod_eq_emod_iff_emod_sub_eq_zero.mpr (Int.emod_eq_zero_of_dvd h)
  unfold near1; rw [this]
theorem near1_neg {n : Int} (hn : 0 < n) {p q : Int} (h : n ∣ p + q) : near1 n p * near1 n p = near1 n q * near1 n q := by
  have a1 := Int.emod_nonneg p (show n ≠ 0 by omega); have a2 := Int.emod_lt_of_pos p hn
  have b1 := Int.emod_nonneg q (show n ≠ 0 by omega); have b2 := Int.emod_lt_of_pos q hn
  have e1 := Int.mul_ediv_add_emod p n; have e2 := Int.mul_ediv_add_emod q n
  have hd : n ∣ p % n + q % n := by
    have : p % n + q % n = (p + q) - n * (p / n + q / n) := by rw [Int.mul_add]; omega
    rw [this]; exact Int.dvd_sub h (Int.dvd_mul_right _ _)
  have : p % n + q % n = 0 ∨ p % n + q % n = n := by
    by_cases h0 : p % n + q % n < n
    · left; exact small_dvd hd (by omega) h0
    · right
      have : n ∣ p % n + q % n - n := Int.dvd_sub hd (Int.dvd_refl _)
      have := small_dvd this (by omega) (by omega); omega
  have : near1 n p = near1 n q := by unfold near1; split <;> split <;> omega
  rw [this]
/-- the name of the turned point -/
def turn (a b k : Int) : Int := nm a b (-(k / row a b)) (k % row a b)
theorem turn_range (ha : 1 ≤ a) (hb : 0 ≤ b) (k : Int) : 0 ≤ turn a b k ∧ turn a b k < ar a b := by
  have := nm_spec ha hb (-(k / row a b)) (k % row a b); unfold turn; omega
theorem turn_hold (ha : 1 ≤ a) (hb : 0 ≤ b) (k : Int) : hold a b (-(k / row a b) - turn a b k % row a b) (k % row a b - turn a b k / row a b) := (nm_spec ha hb _ _).2.2
theorem turn_near (ha : 1 ≤ a) (hb : 0 ≤ b) (k : Int) : near a b (turn a b k % row a b) (turn a b k / row a b) = near a b (k % row a b) (k / row a b) := by
  have hn : 0 < ar a b := by have := ar_pos (b := b) ha; omega
  obtain ⟨h1, h2⟩ := turn_hold ha hb k
  generalize turn a b k % row a b = u' at *
  generalize turn a b k / row a b = v' at *
  generalize k % row a b = u at *
  generalize k / row a b = v at *
  unfold near near2
  have e1 : near1 (ar a b) (u' * a + v' * b) * near1 (ar a b) (u' * a + v' * b) = near1 (ar a b) (v * a - u * b) * near1 (ar a b) (v * a - u * b) := near1_neg hn (dvd_lin (-1) 0 h1 h1 (by grind))
  have e2 : near1 (ar a b) (v' * a - u' * b) = near1 (ar a b) (u * a + v * b) := near1_congr (dvd_lin (-1) 0 h2 h2 (by grind))
  rw [e1, e2, Int.add_comm]
theorem turn_four (ha : 1 ≤ a) (hb : 0 ≤ b) {k : Int} (h0 : 0 ≤ k) (h1 : k < ar a b) : turn a b (turn a b (turn a b (turn a b k))) = k := by
  have t1 := turn_hold ha hb k
  have t2 := turn_hold ha hb (turn a b k)
  have t3 := turn_hold ha hb (turn a b (turn a b k))
  apply nm_unique ha hb h0 h1
  generalize turn a b (turn a b (turn a b k)) % row a b = u3 at *
  generalize turn a b (turn a b (turn a b k)) / row a b = v3 at *
  generalize turn a b (turn a b k) % row a b = u2 at *
  generalize turn a b (turn a b k) / row a b = v2 at *
  generalize turn a b k % row a b = u1 at *
  generalize turn a b k / row a b = v1 at *
  generalize k % row a b = u at *
  generalize k / row a b = v at *
  have s1 := hold_turn (hold_turn (hold_turn t1))
  have s2 := hold_turn (hold_turn t2)
  have s3 := hold_turn t3
  have s := hold_sub (hold_sub (hold_mul s1 (-1)) s2) s3
  rwa [show (-1 * - -(u - v1) - -(-v1 - u2) - -(u2 - v3)) = -v3 - u by omega, show (-1 * -(-v - u1) - -(u1 - v2) - (-v2 - u3)) = u3 - v by omega] at s
end Go.Proofs.Ytkkcedkiohefmaa.Lat
