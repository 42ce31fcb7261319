/- Plain mathematics of SHA-256 over natural numbers; no program in sight. -/
import Derived.Test.YtloehmcfmjbidaaDoorRows
import Derived.Laws.BitsLemmas
namespace Go.Proofs.YtloehmcfmjbidaaDoor

/-- the number at a place; behind the end 0 -/
def nth (xs : List Nat) (j : Nat) : Nat := xs.getD j 0
theorem nth_lt {xs : List Nat} {j : Nat} (h : j < xs.length) : xs[j]? = some (nth xs j) := by simp [nth, h]
theorem nth_set {xs : List Nat} {i j x : Nat} (h : i < xs.length) : nth (xs.set i x) j = if i = j then x else nth xs j := by
  unfold nth
  by_cases hij : i = j
  · subst hij; simp [h]
  · simp [hij, List.getElem?_set_ne hij]
namespace Sha

def rotr (x n : Nat) : Nat := x / 2 ^ n + x % 2 ^ n * 2 ^ (32 - n)

theorem rotr_lt {x n : Nat} (hx : x < 4294967296) (hn : n ≤ 32) : rotr x n < 4294967296 := by
  unfold rotr
  have h : (4294967296 : Nat) = 2 ^ n * 2 ^ (32 - n) := by rw [← Nat.pow_add, show n + (32 - n) = 32 by omega]
  have h1 : x / 2 ^ n < 2 ^ (32 - n) := by
    apply Nat.div_lt_of_lt_mul; rw [← h]; exact hx
  have h2 : x % 2 ^ n + 1 ≤ 2 ^ n := Nat.mod_lt _ (Nat.two_pow_pos n)
  have h3 : (x % 2 ^ n + 1) * 2 ^ (32 - n) ≤ 2 ^ n * 2 ^ (32 - n) := Nat.mul_le_mul_right _ h2
  rw [Nat.add_mul, ← h] at h3
  omega

theorem rotr_or {x n : Nat} (hx : x < 4294967296) (hn : n ≤ 32) : x / 2 ^ n ||| x * 2 ^ (32 - n) % 4294967296 = rotr x n := by
  unfold rotr
  have h : (4294967296 : Nat) = 2 ^ n * 2 ^ (32 - n) := by rw [← Nat.pow_add, show n + (32 - n) = 32 by omega]
  have h1 : x / 2 ^ n < 2 ^ (32 - n) := by
    apply Nat.div_lt_of_lt_mul; rw [← h]; exact hx
  rw [h, Nat.mul_mod_mul_right, Nat.or_comm, Nat.mul_comm (x % 2 ^ n), ← Nat.two_pow_add_eq_or_of_lt h1, Nat.add_comm]

def sig0 (x : Nat) : Nat := rotr x 7 ^^^ rotr x 18 ^^^ x / 8
def sig1 (x : Nat) : Nat := rotr x 17 ^^^ rotr x 19 ^^^ x / 1024
def big1 (e : Nat) : Nat := rotr e 6 ^^^ rotr e 11 ^^^ rotr e 25
def big0 (a : Nat) : Nat := rotr a 2 ^^^ rotr a 13 ^^^ rotr a 22
def cho (e f g : Nat) : Nat := (e &&& f) ^^^ ((4294967295 - e) &&& g)
def maj (a b c : Nat) : Nat := (a &&& b) ^^^ (a &&& c) ^^^ (b &&& c)

/-- a block's first numbers -/
def word (b : List Nat) (i : Nat) : Nat := nth b (4 * i) * 16777216 + nth b (4 * i + 1) * 65536 + nth b (4 * i + 2) * 256 + nth b (4 * i + 3)
def wnext (w : List Nat) (i : Nat) : Nat := (nth w (i - 16) + nth w (i - 7) + sig0 (nth w (i - 15)) + sig1 (nth w (i - 2))) % 4294967296
def sched (b : List Nat) : Nat → List Nat
  | 0 => []
  | k + 1 => sched b k ++ [if k < 16 then word b k else wnext (sched b k) k]

structure St where
  (a b c d e f g h : Nat)
def St.list (s : St) : List Nat := [s.a, s.b, s.c, s.d, s.e, s.f, s.g, s.h]
def t1 (s : St) (k w : Nat) : Nat := (s.h + big1 s.e + cho s.e s.f s.g + k + w) % 4294967296
def t2 (s : St) : Nat := (big0 s.a + maj s.a s.b s.c) % 4294967296
def round (s : St) (k w : Nat) : St := ⟨(t1 s k w + t2 s) % 4294967296, s.a, s.b, s.c, (s.d + t1 s k w) % 4294967296, s.e, s.f, s.g⟩
def rounds (K W : List Nat) (s : St) : Nat → St
  | 0 => s
  | i + 1 => round (rounds K W s i) (nth K i) (nth W i)
def blockOf (h s : St) : St :=
  ⟨(h.a + s.a) % 4294967296, (h.b + s.b) % 4294967296, (h.c + s.c) % 4294967296, (h.d + s.d) % 4294967296, (h.e + s.e) % 4294967296, (h.f + s.f) % 4294967296, (h.g + s.g) % 4294967296, (h.h + s.h) % 4294967296⟩
def block (K : List Nat) (h : St) (b : List Nat) : St := blockOf h (rounds K (sched b 64) h 64)

/-- how many noughts go behind the 128 -/
def zeros (n : Nat) : Nat := (119 - n % 64) % 64
def tail8 (n : Nat) : List Nat := [n / 72057594037927936 % 256, n / 281474976710656 % 256, n / 1099511627776 % 256, n / 4294967296 % 256, n / 16777216 % 256, n / 65536 % 256, n / 256 % 256, n % 256]
def pad (b : List Nat) : List Nat := b ++ 128 :: (List.replicate (zeros b.length) 0 ++ tail8 (b.length * 8))
def chain (K : List Nat) (l : List Nat) (h : St) : Nat → St
  | 0 => h
  | i + 1 => block K (chain K l h i) ((l.drop (64 * i)).take 64)
def bytes4 (x : Nat) : List Nat := [x / 16777216 % 256, x / 65536 % 256, x / 256 % 256, x % 256]
def sum (K : List Nat) (h : St) (b : List Nat) : List Nat :=
  (chain K (pad b) h ((pad b).length / 64)).list.flatMap bytes4

theorem pad_len (b : List Nat) : (pad b).length % 64 = 0 := by
  simp [pad, tail8, zeros]; omega

structure Ok (s : St) : Prop where
  a : s.a < 4294967296
  b : s.b < 4294967296
  c : s.c < 4294967296
  d : s.d < 4294967296
  e : s.e < 4294967296
  f : s.f < 4294967296
  g : s.g < 4294967296
  h : s.h < 4294967296

def K0 : List Nat := [1116352408, 1899447441, 3049323471, 3921009573, 961987163, 1508970993, 2453635748, 2870763221, 3624381080, 310598401, 607225278, 1426881987, 1925078388, 2162078206, 2614888103, 3248222580, 3835390401, 4022224774, 264347078, 604807628, 770255983, 1249150122, 1555081692, 1996064986, 2554220882, 2821834349, 2952996808, 3210313671, 3336571891, 3584528711, 113926993, 338241895, 666307205, 773529912, 1294757372, 1396182291, 1695183700, 1986661051, 2177026350, 2456956037, 2730485921, 2820302411, 3259730800, 3345764771, 3516065817, 3600352804, 4094571909, 275423344, 430227734, 506948616, 659060556, 883997877, 958139571, 1322822218, 1537002063, 1747873779, 1955562222, 2024104815, 2227730452, 2361852424, 2428436474, 2756734187, 3204031479, 3329325298]
def H0 : St := ⟨1779033703, 3144134277, 1013904242, 2773480762, 1359893119, 2600822924, 528734635, 1541459225⟩

/-! the reckoning of the constants -/
def digits (n : Nat) : List Nat := [n % 65536, n / 65536 % 65536, n / 4294967296]
def Small (xs : List Nat) : Prop := ∀ j, nth xs j < 65536
def inner (x : Nat) (b : List Nat) (i : Nat) (s : List Nat × Nat) : Nat → List Nat × Nat
  | 0 => s
  | k + 1 =>
    let r := inner x b i s k
    let n := nth r.1 (i + k) + x * nth b k + r.2
    (r.1.set (i + k) (n % 65536), n / 65536)
def outer (a b : List Nat) : Nat → List Nat
  | 0 => List.replicate (a.length + b.length) 0
  | i + 1 => let r := inner (nth a i) b i (outer a b i, 0) b.length; r.1.set (i + b.length) r.2
def times (a b : List Nat) : List Nat := outer a b a.length
def aboveFrom (a b : List Nat) : Nat → Bool
  | 0 => false
  | i + 1 => if nth a i ≠ nth b i then decide (nth b i < nth a i) else aboveFrom a b i
def above (a b : List Nat) : Bool := aboveFrom a b (max a.length b.length)
def pow (n : List Nat) : Nat → List Nat
  | 0 => n
  | i + 1 => times (pow n i) n
def goal (p f : Nat) : List Nat := List.replicate (2 * f) 0 ++ [p]
def rootFrom (p f : Nat) (x : Nat) : Nat → Nat → Nat
  | 0, _ => x
  | n + 1, bit => rootFrom p f (if above (pow (digits (x + bit)) (f - 1)) (goal p f) then x else x + bit) n (bit / 2)
def root (p f : Nat) : Nat := rootFrom p f 0 37 68719476736 % 4294967296
def isPrime (p : Nat) (l : List Nat) : Bool := l.all fun q => p % q != 0
def primesFrom (n : Nat) : Nat → Nat → List Nat → List Nat
  | 0, _, l => l
  | f + 1, p, l => if l.length < n then primesFrom n f (p + 1) (if isPrime p l then l ++ [p] else l) else l
def primes : List Nat := primesFrom 64 400 2 []
def tableK : List Nat := primes.map fun p => root p 3
def tableH : List Nat := (primes.take 8).map fun p => root p 2

def hexd (n : Nat) : UInt8 := if n < 10 then UInt8.ofNat (48 + n) else UInt8.ofNat (87 + n)
def hex (b : List Nat) : List UInt8 := b.flatMap fun x => [hexd (x / 16), hexd (x % 16)]

example : hex (sum K0 H0 [97, 98, 99]) = "ba7816bf8f01cfea414140de5dae2223b00361a396177a9cb410ff61f20015ad".toUTF8.toList := by decide +kernel
theorem inner_len (x : Nat) (b : List Nat) (i : Nat) (s : List Nat × Nat) : ∀ k, (inner x b i s k).1.length = s.1.length
  | 0 => rfl
  | k + 1 => by simp [inner, inner_len x b i s k]
theorem outer_len (a b : List Nat) : ∀ i, (outer a b i).length = a.length + b.length
  | 0 => by simp [outer]
  | i + 1 => by simp [outer, inner_len, outer_len a b i]
theorem small_set {xs : List Nat} {i x : Nat} (h : Small xs) (hx : x < 65536) : Small (xs.set i x) := fun j => by
  by_cases hi : i < xs.length
  · rw [nth_set hi]; split
    · exact hx
    · exact h j
  · rw [List.set_eq_of_length_le (by omega)]; exact h j
theorem mul_le' {x y : Nat} (hx : x < 65536) (hy : y < 65536) : x * y ≤ 4294836225 := by
  have : x * y ≤ 65535 * 65535 := Nat.mul_le_mul (by omega) (by omega)
  omega
theorem inner_small {x : Nat} {b : List Nat} {i : Nat} {s : List Nat × Nat} (hx : x < 65536) (hb : Small b) (hs : Small s.1) (hc : s.2 < 65536) : ∀ k, Small (inner x b i s k).1 ∧ (inner x b i s k).2 < 65536
  | 0 => ⟨hs, hc⟩
  | k + 1 => by
    have ih := inner_small (i := i) hx hb hs hc k
    have h1 := ih.1 (i + k)
    have h2 := mul_le' hx (hb k)
    have h3 := ih.2
    refine ⟨small_set ih.1 (Nat.mod_lt _ (by decide)), ?_⟩
    simp only [inner]
    omega
theorem outer_small {a b : List Nat} (ha : Small a) (hb : Small b) : ∀ i, Small (outer a b i)
  | 0 => fun j => by
    simp only [outer, nth, List.getD_eq_getElem?_getD, List.getElem?_replicate]
    split <;> simp
  | i + 1 => by
    have := inner_small (i := i) (ha i) hb (s := (outer a b i, 0)) (outer_small ha hb i) (show 0 < 65536 by decide) b.length
    exact small_set this.1 this.2

/-! what the digits are worth -/
def V (a : List Nat) : Nat → Nat
  | 0 => 0
  | n + 1 => V a n + nth a n * 65536 ^ n
theorem V_lt {a : List Nat} (h : Small a) : ∀ n, V a n < 65536 ^ n
  | 0 => by simp [V]
  | n + 1 => by
    have ih := V_lt h n
    have h1 : (nth a n + 1) * 65536 ^ n ≤ 65536 * 65536 ^ n := Nat.mul_le_mul_right _ (h n)
    rw [Nat.pow_succ, V, Nat.mul_comm (65536 ^ n)]
    rw [Nat.add_mul] at h1
    omega
theorem V_congr {a b : List Nat} : ∀ n, (∀ j, j < n → nth a j = nth b j) → V a n = V b n
  | 0, _ => rfl
  | n + 1, h => by rw [V, V, V_congr n (fun j hj => h j (by omega)), h n (by omega)]
theorem V_set {a : List Nat} {m y : Nat} (hm : m < a.length) : ∀ n, m < n → V (a.set m y) n + nth a m * 65536 ^ m = V a n + y * 65536 ^ m
  | 0, h => by omega
  | n + 1, h => by
    rw [V, V, nth_set hm]
    by_cases hmn : m = n
    · subst hmn
      rw [if_pos rfl, V_congr (a := a.set m y) (b := a) m (fun j hj => by rw [nth_set hm, if_neg (by omega)])]
      omega
    · have ih := V_set (y := y) hm n (by omega)
      rw [if_neg hmn]
      omega
theorem nth_ge {a : List Nat} {j : Nat} (h : a.length ≤ j) : nth a j = 0 := by simp [nth, h]
theorem V_more {a : List Nat} {m : Nat} (h : ∀ j, m ≤ j → nth a j = 0) : ∀ n, V a (m + n) = V a m
  | 0 => rfl
  | n + 1 => by rw [← Nat.add_assoc, V, V_more h n, h (m + n) (by omega)]; simp
theorem inner_V {x : Nat} {b : List Nat} {i N : Nat} {s : List Nat × Nat} (hN : N ≤ s.1.length) : ∀ k, i + k ≤ N →
    V (inner x b i s k).1 N + (inner x b i s k).2 * 65536 ^ (i + k) = V s.1 N + s.2 * 65536 ^ i + x * V b k * 65536 ^ i
  | 0, _ => by simp [inner, V]
  | k + 1, h => by
    have ih := inner_V (x := x) (b := b) (i := i) hN k (by omega)
    simp only [inner]
    have h1 := V_set (a := (inner x b i s k).1) (m := i + k) (y := (nth (inner x b i s k).1 (i + k) + x * nth b k + (inner x b i s k).2) % 65536) (by rw [inner_len]; omega) N (by omega)
    generalize (inner x b i s k).1 = o at *
    generalize (inner x b i s k).2 = c at *
    have hp : 65536 ^ (i + (k + 1)) = 65536 * 65536 ^ (i + k) := by rw [← Nat.add_assoc, Nat.pow_succ, Nat.mul_comm]
    have hq : 65536 ^ k * 65536 ^ i = 65536 ^ (i + k) := by rw [← Nat.pow_add, Nat.add_comm]
    rw [hp, V]
    have hx : x * (V b k + nth b k * 65536 ^ k) * 65536 ^ i = x * V b k * 65536 ^ i + x * nth b k * 65536 ^ (i + k) := by
      rw [← hq, Nat.mul_add, Nat.add_mul]; simp only [Nat.mul_assoc]
    rw [hx]
    generalize 65536 ^ (i + k) = P at *
    generalize hn : nth o (i + k) + x * nth b k + c = n at *
    have hd : n % 65536 * P + n / 65536 * (65536 * P) = n * P := by
      rw [← Nat.mul_assoc, Nat.mul_comm (n / 65536) 65536, ← Nat.add_mul, Nat.mod_add_div]
    have he : n * P = nth o (i + k) * P + x * nth b k * P + c * P := by rw [← hn, Nat.add_mul, Nat.add_mul]
    omega
theorem inner_old {x : Nat} {b : List Nat} {i : Nat} {s : List Nat × Nat} {j : Nat} : ∀ k, i + k ≤ j → nth (inner x b i s k).1 j = nth s.1 j
  | 0, _ => rfl
  | k + 1, h => by
    simp only [inner]
    by_cases hl : i + k < (inner x b i s k).1.length
    · rw [nth_set hl, if_neg (by omega), inner_old k (by omega)]
    · rw [List.set_eq_of_length_le (by omega), inner_old k (by omega)]
theorem outer_zero {a b : List Nat} : ∀ i, i ≤ a.length → ∀ j, i + b.length ≤ j → nth (outer a b i) j = 0
  | 0, _, j, _ => by
    simp only [outer, nth, List.getD_eq_getElem?_getD, List.getElem?_replicate]
    split <;> simp
  | i + 1, hi, j, h => by
    simp only [outer]
    rw [nth_set (by rw [inner_len, outer_len]; omega), if_neg (by omega), inner_old _ (by omega)]
    exact outer_zero i (by omega) j (by omega)
theorem outer_V {a b : List Nat} : ∀ i, i ≤ a.length → V (outer a b i) (a.length + b.length) = V a i * V b b.length
  | 0, _ => by
    have : ∀ n m, V (List.replicate m 0) n = 0 := fun n m => by
      induction n with
      | zero => rfl
      | succ n ih =>
        rw [V, ih]
        have : nth (List.replicate m 0) n = 0 := by
          simp only [nth, List.getD_eq_getElem?_getD, List.getElem?_replicate]
          split <;> simp
        rw [this]; simp
    simp [outer, this, V]
  | i + 1, hi => by
    have ih := outer_V (a := a) (b := b) i (by omega)
    have h1 := inner_V (x := nth a i) (b := b) (i := i) (N := a.length + b.length) (s := (outer a b i, 0)) (by rw [outer_len]; omega) b.length (by omega)
    have h0 : nth (inner (nth a i) b i (outer a b i, 0) b.length).1 (i + b.length) = 0 := by
      rw [inner_old _ (by omega)]; exact outer_zero i (by omega) _ (by omega)
    have h2 := V_set (a := (inner (nth a i) b i (outer a b i, 0) b.length).1) (m := i + b.length) (y := (inner (nth a i) b i (outer a b i, 0) b.length).2) (by rw [inner_len, outer_len]; omega) (a.length + b.length) (by omega)
    simp only [outer, V]
    rw [h0] at h2
    simp only [ih] at h1
    have h3 : (V a i + nth a i * 65536 ^ i) * V b b.length = V a i * V b b.length + nth a i * V b b.length * 65536 ^ i := by
      rw [Nat.add_mul, Nat.mul_assoc (nth a i), Nat.mul_assoc (nth a i), Nat.mul_comm (65536 ^ i)]
    rw [h3]
    omega
theorem aboveFrom_iff {a b : List Nat} (ha : Small a) (hb : Small b) : ∀ n, aboveFrom a b n = true ↔ V b n < V a n
  | 0 => by simp [aboveFrom, V]
  | n + 1 => by
    have h1 := V_lt ha n
    have h2 := V_lt hb n
    rw [aboveFrom, V, V]
    by_cases he : nth a n = nth b n
    · rw [if_neg (by simpa using he), aboveFrom_iff ha hb n, he]
      omega
    · rw [if_pos he, decide_eq_true_eq]
      rcases Nat.lt_or_gt_of_ne he with h | h
      · have h3 : (nth a n + 1) * 65536 ^ n ≤ nth b n * 65536 ^ n := Nat.mul_le_mul_right _ h
        rw [Nat.add_mul] at h3
        omega
      · have h3 : (nth b n + 1) * 65536 ^ n ≤ nth a n * 65536 ^ n := Nat.mul_le_mul_right _ h
        rw [Nat.add_mul] at h3
        omega
theorem aboveFrom_V {a b : List Nat} (ha : Small a) (hb : Small b) (n : Nat) : aboveFrom a b n = decide (V b n < V a n) := by
  rw [Bool.eq_iff_iff, aboveFrom_iff ha hb, decide_eq_true_eq]
def W (a : List Nat) : Nat := V a a.length
theorem V_W {a : List Nat} {n : Nat} (h : a.length ≤ n) : V a n = W a := by
  obtain ⟨m, rfl⟩ := Nat.exists_eq_add_of_le h
  exact V_more (fun j hj => nth_ge hj) m
theorem times_W (a b : List Nat) : W (times a b) = W a * W b := by
  have h := outer_V (a := a) (b := b) a.length (Nat.le_refl _)
  have hl : (times a b).length = a.length + b.length := outer_len a b _
  rw [W, hl]
  exact h
theorem times_small {a b : List Nat} (ha : Small a) (hb : Small b) : Small (times a b) := outer_small ha hb _
theorem above_W {a b : List Nat} (ha : Small a) (hb : Small b) : above a b = decide (W b < W a) := by
  rw [above, aboveFrom_V ha hb, V_W (by omega), V_W (by omega)]
theorem digits_W (n : Nat) : W (digits n) = n := by
  simp [W, digits, V, nth]; omega
theorem digits_small {n : Nat} (h : n < 281474976710656) : Small (digits n) := fun j => by
  match j with
  | 0 => simp [digits, nth]; omega
  | 1 => simp [digits, nth]; omega
  | 2 => simp [digits, nth]; omega
  | j + 3 => simp [digits, nth]
theorem pow_small {n : List Nat} (h : Small n) : ∀ i, Small (pow n i)
  | 0 => h
  | i + 1 => times_small (pow_small h i) h
theorem pow_W (n : List Nat) : ∀ i, W (pow n i) = W n ^ (i + 1)
  | 0 => by simp [pow]
  | i + 1 => by rw [pow, times_W, pow_W n i, ← Nat.pow_succ]
theorem goal_small {p f : Nat} (h : p < 65536) : Small (goal p f) := fun j => by
  simp only [goal, nth, List.getD_eq_getElem?_getD, List.getElem?_append, List.length_replicate]
  split
  · simp only [List.getElem?_replicate]; split <;> simp
  · match j - 2 * f with
    | 0 => simpa using h
    | k + 1 => simp
theorem goal_W (p f : Nat) : W (goal p f) = p * 65536 ^ (2 * f) := by
  have h1 : ∀ n, n ≤ 2 * f → V (goal p f) n = 0 := fun n hn => by
    induction n with
    | zero => rfl
    | succ n ih =>
      rw [V, ih (by omega)]
      have : nth (goal p f) n = 0 := by
        simp only [goal, nth, List.getD_eq_getElem?_getD]
        rw [List.getElem?_append_left (by simp; omega)]
        simp only [List.getElem?_replicate]; split <;> simp
      rw [this]; simp
  have h2 : nth (goal p f) (2 * f) = p := by simp [goal, nth]
  have h3 : (goal p f).length = 2 * f + 1 := by simp [goal]
  rw [W, h3, V, h1 _ (Nat.le_refl _), h2]
  simp
def rootN (p f : Nat) (x : Nat) : Nat → Nat → Nat
  | 0, _ => x
  | n + 1, bit => rootN p f (if p * 65536 ^ (2 * f) < (x + bit) ^ f then x else x + bit) n (bit / 2)
theorem rootFrom_N {p f : Nat} (hp : p < 65536) (hf : 1 ≤ f) : ∀ n x bit, x + 2 * bit ≤ 281474976710656 → 0 < bit → rootFrom p f x n bit = rootN p f x n bit
  | 0, _, _, _, _ => rfl
  | n + 1, x, bit, h, h0 => by
    have hs : Small (digits (x + bit)) := digits_small (by omega)
    rw [rootFrom, rootN, above_W (pow_small hs _) (goal_small hp), pow_W, goal_W, digits_W, show f - 1 + 1 = f by omega]
    simp only [decide_eq_true_eq]
    by_cases hb : bit / 2 = 0
    · rw [hb]
      cases n with
      | zero => rfl
      | succ n =>
        have key : ∀ n x, rootFrom p f x n 0 = x ∧ rootN p f x n 0 = x := fun n => by
          induction n with
          | zero => exact fun x => ⟨rfl, rfl⟩
          | succ n ih => exact fun x => ⟨by simp [rootFrom, (ih x).1], by simp [rootN, (ih x).2]⟩
        rw [(key _ _).1, (key _ _).2]
    · exact rootFrom_N hp hf n _ _ (by split <;> omega) (by omega)
def rootM (p f : Nat) : Nat := rootN p f 0 37 68719476736 % 4294967296
theorem root_M {p f : Nat} (hp : p < 65536) (hf : 1 ≤ f) : root p f = rootM p f := by
  rw [root, rootM, rootFrom_N hp hf _ _ _ (by decide) (by decide)]
def primes0 : List Nat := [2, 3, 5, 7, 11, 13, 17, 19, 23, 29, 31, 37, 41, 43, 47, 53, 59, 61, 67, 71, 73, 79, 83, 89, 97, 101, 103, 107, 109, 113, 127, 131, 137, 139, 149, 151, 157, 163, 167, 173, 179, 181, 191, 193, 197, 199, 211, 223, 227, 229, 233, 239, 241, 251, 257, 263, 269, 271, 277, 281, 283, 293, 307, 311]
theorem primes_eq : primes = primes0 := by decide +kernel
theorem primes_lt : ∀ p ∈ primes0, p < 65536 := by decide +kernel
theorem tableK_eq : tableK = K0 := by
  have h : primes0.map (fun p => rootM p 3) = K0 := by decide +kernel
  rw [tableK, primes_eq, ← h]
  exact List.map_congr_left fun p hp => root_M (primes_lt p hp) (by decide)
theorem tableH_eq : tableH = H0.list := by
  have h : (primes0.take 8).map (fun p => rootM p 2) = H0.list := by decide +kernel
  rw [tableH, primes_eq, ← h]
  exact List.map_congr_left fun p hp => root_M (primes_lt p (List.mem_of_mem_take hp)) (by decide)

theorem times_len (a b : List Nat) : (times a b).length = a.length + b.length := outer_len a b _
theorem pow_len (n : List Nat) : ∀ i, (pow n i).length = n.length * (i + 1)
  | 0 => by simp [pow]
  | i + 1 => by rw [pow, times_len, pow_len n i]; simp [Nat.mul_add]
theorem goal_len (p f : Nat) : (goal p f).length = 2 * f + 1 := by simp [goal]
theorem rootFrom_zero (p f : Nat) : ∀ n x, rootFrom p f x n 0 = x
  | 0, _ => rfl
  | n + 1, x => by simp [rootFrom, rootFrom_zero p f n]
theorem primesFrom_full {n : Nat} {l : List Nat} (h : ¬ l.length < n) : ∀ f p, primesFrom n f p l = l
  | 0, _ => rfl
  | f + 1, p => by rw [primesFrom, if_neg h]
theorem isPrime_take (p : Nat) (l : List Nat) (i : Nat) (h : i < l.length) : isPrime p (l.take (i + 1)) = (isPrime p (l.take i) && (p % nth l i != 0)) := by
  rw [isPrime, List.take_succ_eq_append_getElem h, List.all_append, nth]
  simp [isPrime, h]
theorem primes_len : primes.length = 64 := by rw [primes_eq]; rfl
theorem primesFrom_step {n f p : Nat} {l : List Nat} (h : l.length < n) : primesFrom n (f + 1) p l = primesFrom n f (p + 1) (if isPrime p l then l ++ [p] else l) := by
  rw [primesFrom, if_pos h]
theorem primes_start : primesFrom 64 (402 - 2) 2 [] = primes := rfl
theorem primesFrom_none (n p : Nat) (l : List Nat) : primesFrom n (402 - 402) p l = l := rfl
attribute [irreducible] primesFrom

def tl (n : Nat) : Nat → List Nat
  | 0 => []
  | k + 1 => (n / 256 ^ k % 256) :: tl n k
theorem tl_eight (n : Nat) : tl n 8 = tail8 n := by simp [tl, tail8]
theorem tl_len (n : Nat) : ∀ k, (tl n k).length = k
  | 0 => rfl
  | k + 1 => by simp [tl, tl_len n k]
theorem zeros_lt (n : Nat) : zeros n < 64 := by unfold zeros; omega
theorem zeros_at (n : Nat) : (n + 1 + zeros n) % 64 = 56 := by unfold zeros; omega
theorem zeros_not {n k : Nat} (h : k < zeros n) : (n + 1 + k) % 64 ≠ 56 := by unfold zeros at h; omega
theorem pad_eq (b : List Nat) : pad b = (b ++ [128] ++ List.replicate (zeros b.length) 0) ++ tl (b.length * 8) 8 := by
  rw [tl_eight, pad]; simp
theorem pad_length (b : List Nat) : (pad b).length = b.length + 1 + zeros b.length + 8 := by
  simp [pad, tail8]; omega

theorem sched_len (b : List Nat) : ∀ k, (sched b k).length = k
  | 0 => rfl
  | k + 1 => by simp [sched, sched_len b k]
def Bytes (b : List Nat) : Prop := ∀ j, nth b j < 256
def Words (b : List Nat) : Prop := ∀ j, nth b j < 4294967296
theorem nth_append {xs ys : List Nat} {j : Nat} : nth (xs ++ ys) j = if j < xs.length then nth xs j else nth ys (j - xs.length) := by
  simp only [nth, List.getD_eq_getElem?_getD, List.getElem?_append]
  split <;> rfl
theorem words_snoc {xs : List Nat} {x : Nat} (h : Words xs) (hx : x < 4294967296) : Words (xs ++ [x]) := fun j => by
  rw [nth_append]
  split
  · exact h j
  · match j - xs.length with
    | 0 => simpa [nth] using hx
    | k + 1 => simp [nth]
theorem word_lt {b : List Nat} (h : Bytes b) (i : Nat) : word b i < 4294967296 := by
  have h1 := h (4 * i)
  have h2 := h (4 * i + 1)
  have h3 := h (4 * i + 2)
  have h4 := h (4 * i + 3)
  unfold word
  omega
theorem sched_words {b : List Nat} (h : Bytes b) : ∀ k, Words (sched b k)
  | 0 => fun j => by simp [sched, nth]
  | k + 1 => words_snoc (sched_words h k) (by
      split
      · exact word_lt h k
      · exact Nat.mod_lt _ (by decide))

theorem sched_big {b : List Nat} {k : Nat} (h : 16 ≤ k) : sched b (k + 1) = sched b k ++ [wnext (sched b k) k] := by rw [sched, if_neg (by omega)]
theorem xor_lt {a b : Nat} (ha : a < 4294967296) (hb : b < 4294967296) : a ^^^ b < 4294967296 := Nat.xor_lt_two_pow (n := 32) ha hb
theorem and_lt {a b : Nat} (hb : b < 4294967296) : a &&& b < 4294967296 := Nat.and_lt_two_pow (n := 32) a hb
theorem rounds_ok {K W : List Nat} {s : St} (h : Ok s) (hK : Words K) (hW : Words W) : ∀ k, Ok (rounds K W s k)
  | 0 => h
  | k + 1 => by
    have ih := rounds_ok h hK hW k
    exact ⟨Nat.mod_lt _ (by decide), ih.a, ih.b, ih.c, Nat.mod_lt _ (by decide), ih.e, ih.f, ih.g⟩
theorem round_k (K W : List Nat) (s : St) (k : Nat) : rounds K W s (k + 1) = round (rounds K W s k) (nth K k) (nth W k) := rfl

theorem i_sum4 (a b c d : Nat) : ((((a : Int) + (b : Int)) % 4294967296 + (c : Int)) % 4294967296 + (d : Int)) % 4294967296 = (((a + b + c + d) % 4294967296 : Nat) : Int) := by omega

theorem round_a (s : St) (k w : Nat) : (round s k w) = ⟨(t1 s k w + t2 s) % 4294967296, s.a, s.b, s.c, (s.d + t1 s k w) % 4294967296, s.e, s.f, s.g⟩ := rfl
theorem t1_eq (s : St) (k w : Nat) : ((((s.h : Int) + (big1 s.e : Int) + (cho s.e s.f s.g : Int) + (k : Int)) % 4294967296 + (w : Int)) % 4294967296) = ((t1 s k w : Nat) : Int) := by
  unfold t1; omega
theorem t2_eq (s : St) : (((big0 s.a : Int) + (maj s.a s.b s.c : Int)) % 4294967296) = ((t2 s : Nat) : Int) := by
  unfold t2; omega
theorem t1_lt (s : St) (k w : Nat) : t1 s k w < 4294967296 := Nat.mod_lt _ (by decide)
theorem t2_lt (s : St) : t2 s < 4294967296 := Nat.mod_lt _ (by decide)
def St.nth (s : St) : Nat → Nat
  | 0 => s.a | 1 => s.b | 2 => s.c | 3 => s.d | 4 => s.e | 5 => s.f | 6 => s.g | 7 => s.h | _ => 0
theorem list_nth (s : St) (j : Nat) : Proofs.YtloehmcfmjbidaaDoor.nth s.list j = s.nth j := by
  match j with
  | 0 => rfl | 1 => rfl | 2 => rfl | 3 => rfl | 4 => rfl | 5 => rfl | 6 => rfl | 7 => rfl
  | j + 8 => simp [Proofs.YtloehmcfmjbidaaDoor.nth, St.list, St.nth]
theorem rotr_def (x n : Nat) : rotr x n = x / 2 ^ n + x % 2 ^ n * 2 ^ (32 - n) := rfl
theorem root_def (p f : Nat) : root p f = rootFrom p f 0 37 68719476736 % 4294967296 := rfl
theorem tl_step (n k : Nat) : tl n (k + 1) = (n / 256 ^ k % 256) :: tl n k := rfl
theorem sched_zero (b : List Nat) : sched b 0 = [] := rfl
theorem rounds_zero (K W : List Nat) (s : St) : rounds K W s 0 = s := rfl
theorem chain_zero (K l : List Nat) (h : St) : chain K l h 0 = h := rfl
theorem chain_step (K l : List Nat) (h : St) (i : Nat) : chain K l h (i + 1) = block K (chain K l h i) ((l.drop (64 * i)).take 64) := rfl
theorem tl_zero (n : Nat) : tl n 0 = [] := rfl
theorem take_snoc_nth {l : List Nat} {k : Nat} (h : k < l.length) : l.take (k + 1) = l.take k ++ [Proofs.YtloehmcfmjbidaaDoor.nth l k] := by
  rw [List.take_succ_eq_append_getElem h]
  simp [Proofs.YtloehmcfmjbidaaDoor.nth, h]
theorem blockOf_nth (h s : St) : ∀ j, j < 8 → Proofs.YtloehmcfmjbidaaDoor.nth (blockOf h s).list j = (Proofs.YtloehmcfmjbidaaDoor.nth h.list j + Proofs.YtloehmcfmjbidaaDoor.nth s.list j) % 4294967296 := by
  intro j hj
  rw [list_nth, list_nth, list_nth]
  match j, hj with
  | 0, _ => rfl | 1, _ => rfl | 2, _ => rfl | 3, _ => rfl | 4, _ => rfl | 5, _ => rfl | 6, _ => rfl | 7, _ => rfl
theorem blockOf_ok (h s : St) : Ok (blockOf h s) := by
  constructor <;> exact Nat.mod_lt _ (by decide)
theorem block_nth (K b : List Nat) (h : St) : ∀ j, j < 8 → Proofs.YtloehmcfmjbidaaDoor.nth (block K h b).list j = (Proofs.YtloehmcfmjbidaaDoor.nth h.list j + Proofs.YtloehmcfmjbidaaDoor.nth (rounds K (sched b 64) h 64).list j) % 4294967296 :=
  blockOf_nth h (rounds K (sched b 64) h 64)
theorem block_ok (K b : List Nat) (h : St) : Ok (block K h b) := blockOf_ok h (rounds K (sched b 64) h 64)
theorem ok_nth {s : St} (h : Ok s) : ∀ j, Proofs.YtloehmcfmjbidaaDoor.nth s.list j < 4294967296 := by
  intro j
  rw [list_nth]
  match j with
  | 0 => exact h.a | 1 => exact h.b | 2 => exact h.c | 3 => exact h.d | 4 => exact h.e | 5 => exact h.f | 6 => exact h.g | 7 => exact h.h
  | j + 8 => simp [St.nth]
attribute [irreducible] sched rounds root tl zeros chain rotr primes block
end Sha
end Go.Proofs.YtloehmcfmjbidaaDoor
