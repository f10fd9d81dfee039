/- This text proves the plain laws of lines of numbers: what is written reads back, by the library's functions and by the reference's. -/
import Derived.Lib.Split
import Derived.Lib.AtoiAll
import Derived.Lib.AtoiAllCases
import Derived.Lib.ItoaMem
import Derived.Lib.Join
namespace Go.Proofs.YthdenmbfeanioaaGreatDoor
open Go.Lib

/-- The line of some numbers. -/
def toldV (l : List Int) : List UInt8 := Lib.join (l.map Lib.itoa) [32]
def NatL (l : List Int) : Prop := ∀ n ∈ l, 0 ≤ n ∧ n ≤ 999999999
theorem itoa_nat {n : Int} (h : 0 ≤ n) : Lib.itoa n = Lib.decDigits n.toNat := by
  obtain ⟨u, rfl⟩ : ∃ u : Nat, n = u := ⟨n.toNat, by omega⟩
  rw [Lib.itoa_nonneg]; simp
theorem dec_digit (u : Nat) : ∀ c ∈ Lib.decDigits u, 48 ≤ c.toNat ∧ c.toNat ≤ 57 := by
  induction u using Nat.strongRecOn with
  | _ u ih =>
    intro c hc
    rw [Lib.decDigits] at hc
    split at hc
    · rw [List.mem_singleton] at hc
      subst hc
      rw [UInt8.toNat_ofNat']
      omega
    · rcases List.mem_append.1 hc with h | h
      · exact ih _ (by omega) c h
      · rw [List.mem_singleton] at h
        subst h
        rw [UInt8.toNat_ofNat']
        omega
theorem dec_ne (u : Nat) : Lib.decDigits u ≠ [] := by
  have := Lib.decDigits_length u
  have h1 := Lib.nDigits_pos u
  intro e
  rw [e] at this
  simp at this
  omega

/-! ### Cutting at blanks -/
theorem index_one (p r : List UInt8) (hp : ∀ c ∈ p, c ≠ 32) : Lib.index (p ++ 32 :: r) [32] = p.length := by
  induction p with
  | nil => simp [Lib.index]
  | cons c p ih =>
    have hc : c ≠ 32 := hp c (by simp)
    have hi := ih fun x hx => hp x (by simp [hx])
    rw [List.cons_append, Lib.index]
    have hn : ([32] : List UInt8).isPrefixOf (c :: (p ++ 32 :: r)) = false := by
      simp [List.isPrefixOf]
      exact fun e => hc e.symm
    rw [hn, hi]
    have : ¬ ((p.length : Int) == -1) = true := fun e => by have := beq_iff_eq.1 e; omega
    rw [if_neg (by decide), if_neg this]
    simp
theorem index_none (p : List UInt8) (hp : ∀ c ∈ p, c ≠ 32) : Lib.index p [32] = -1 := by
  induction p with
  | nil => simp [Lib.index]
  | cons c p ih =>
    have hc : c ≠ 32 := hp c (by simp)
    have hi := ih fun x hx => hp x (by simp [hx])
    rw [Lib.index]
    have hn : ([32] : List UInt8).isPrefixOf (c :: p) = false := by
      simp [List.isPrefixOf]
      exact fun e => hc e.symm
    rw [hn, hi]
    rfl
theorem join_cons (p q : List UInt8) (ps : List (List UInt8)) : Lib.join (p :: q :: ps) [32] = p ++ 32 :: Lib.join (q :: ps) [32] := by
  simp [Lib.join, List.intercalate, List.intersperse]
theorem join_one (p : List UInt8) : Lib.join [p] [32] = p := by simp [Lib.join, List.intercalate, List.intersperse]
theorem split_join : ∀ (ps : List (List UInt8)) (p : List UInt8), (∀ q ∈ p :: ps, ∀ c ∈ q, c ≠ 32) → Lib.split (Lib.join (p :: ps) [32]) [32] = p :: ps
  | [], p, h => by
    have hp := h p (by simp)
    rw [join_one, Lib.split, Lib.count_miss (index_none p hp)]
    rfl
  | q :: ps, p, h => by
    have hp := h p (by simp)
    have ih := split_join ps q fun x hx => h x (by simp at hx ⊢; exact .inr hx)
    rw [join_cons]
    have hi := index_one p (Lib.join (q :: ps) [32]) hp
    unfold Lib.split at ih ⊢
    rw [Lib.count_hit (by simp) hi]
    have hd : (p ++ 32 :: Lib.join (q :: ps) [32]).drop (p.length + ([32] : List UInt8).length) = Lib.join (q :: ps) [32] := by
      rw [List.drop_append]
      simp
    rw [hd, Nat.add_comm, Lib.splitK, hi]
    have : ¬ ((p.length : Int) == -1) = true := fun e => by have := beq_iff_eq.1 e; omega
    rw [if_neg this]
    have e1 : ((p.length : Int).toNat) = p.length := by simp
    rw [e1, hd, ih]
    simp

/-! ### Reading a numeral -/
theorem parse_dec (u : Nat) : ∀ (acc : Nat) (r : List UInt8), acc * 10 ^ (Lib.nDigits u) + u < 1844674407370955162 → Lib.parseUint10 acc (Lib.decDigits u ++ r) = Lib.parseUint10 (acc * 10 ^ (Lib.nDigits u) + u) r := by
  induction u using Nat.strongRecOn with
  | _ u ih =>
    intro acc r hb
    have hpos : 1 ≤ 10 ^ Lib.nDigits u := Nat.one_le_pow _ _ (by decide)
    have hacc : acc ≤ acc * 10 ^ Lib.nDigits u := Nat.le_mul_of_pos_right _ hpos
    by_cases h : u < 10
    · rw [Lib.nDigits_small h] at *
      rw [Lib.decDigits, dif_pos h, List.singleton_append, Lib.parseUint10]
      rw [UInt8.toNat_ofNat']
      have e : (48 + u) % 2 ^ 8 = 48 + u := by omega
      rw [e, if_pos (by omega), if_neg (by omega), if_neg (by omega)]
      congr 1
      omega
    · rw [Lib.nDigits_big h, Nat.pow_succ] at *
      rw [Lib.decDigits, dif_neg h, List.append_assoc]
      have e0 : acc * (10 ^ Lib.nDigits (u / 10) * 10) = acc * 10 ^ Lib.nDigits (u / 10) * 10 := by rw [Nat.mul_assoc]
      rw [e0] at hb ⊢
      rw [ih (u / 10) (by omega) acc _ (by omega), List.singleton_append, Lib.parseUint10, UInt8.toNat_ofNat']
      have e : (48 + u % 10) % 2 ^ 8 = 48 + u % 10 := by omega
      rw [e, if_pos (by omega), if_neg (by omega), if_neg (by omega)]
      congr 1
      omega
theorem atoi_itoa {n : Int} (h0 : 0 ≤ n) (h1 : n ≤ 999999999) : Lib.atoiAll (Lib.itoa n) = .ok n := by
  rw [itoa_nat h0]
  obtain ⟨u, rfl⟩ : ∃ u : Nat, n = u := ⟨n.toNat, by omega⟩
  rw [Int.toNat_natCast]
  have hp := parse_dec u 0 [] (by omega)
  rw [List.append_nil, Nat.zero_mul, Nat.zero_add, Lib.parseUint10] at hp
  obtain ⟨c, r, e⟩ := List.exists_cons_of_ne_nil (dec_ne u)
  have hd := dec_digit u c (by rw [e]; simp)
  have hm : Lib.parseMag (Lib.decDigits u) = .ok u := by
    unfold Lib.parseMag
    rw [if_neg (dec_ne u), hp]
  unfold Lib.atoiAll
  rw [e] at hm ⊢
  dsimp only
  rw [if_neg (by omega), hm]
  dsimp only
  rw [if_neg (by omega), if_neg (by omega), if_neg (by omega)]

/-! ### The reference's reading -/
/-- What the reference's loop does from here on: the number and its length so far, and what lies behind. -/
def numF : List UInt8 → Int → Int → List Int → List Int
  | [], n, len, out => if len < 1 ∨ 9 < len then [] else out ++ [n]
  | c :: r, n, len, out => if c.toNat = 32 then (if len < 1 ∨ 9 < len then [] else numF r 0 0 (out ++ [n])) else if c.toNat < 48 ∨ 57 < c.toNat ∨ 9 < len then [] else numF r (10 * n + c.toNat - 48) (len + 1) out
theorem numF_dec (u : Nat) : ∀ (n len : Int) (r : List UInt8) (out : List Int), 0 ≤ len → len + Lib.nDigits u ≤ 10 → numF (Lib.decDigits u ++ r) n len out = numF r (n * 10 ^ (Lib.nDigits u) + u) (len + Lib.nDigits u) out := by
  induction u using Nat.strongRecOn with
  | _ u ih =>
    intro n len r out h0 hb
    have hp := Lib.nDigits_pos u
    by_cases h : u < 10
    · rw [Lib.nDigits_small h] at *
      rw [Lib.decDigits, dif_pos h, List.singleton_append, numF]
      rw [UInt8.toNat_ofNat']
      have e : (48 + u) % 2 ^ 8 = 48 + u := by omega
      rw [e, if_neg (by omega), if_neg (by omega)]
      congr 1
      omega
    · rw [Lib.nDigits_big h] at *
      rw [Lib.decDigits, dif_neg h, List.append_assoc, ih (u / 10) (by omega) n len _ out h0 (by omega), List.singleton_append, numF, UInt8.toNat_ofNat']
      have e : (48 + u % 10) % 2 ^ 8 = 48 + u % 10 := by omega
      have e2 : n * 10 ^ (Lib.nDigits (u / 10) + 1) = 10 * (n * 10 ^ Lib.nDigits (u / 10)) := by rw [Int.pow_succ]; rw [Int.mul_comm 10, Int.mul_assoc]
      rw [e, if_neg (by omega), if_neg (by omega), e2]
      congr 1
      · omega
      · omega
theorem digits9 {u : Nat} (h : u ≤ 999999999) : Lib.nDigits u ≤ 9 := by
  rcases Nat.lt_or_ge 9 (Lib.nDigits u) with h1 | h1
  · exfalso
    have : 10 ^ 9 ≤ u := by
      have key : ∀ (k v : Nat), k < Lib.nDigits v → 0 < k → 10 ^ k ≤ v := by
        intro k
        induction k with
        | zero => intro v _ h; omega
        | succ k ih =>
          intro v hv _
          by_cases hk : v < 10
          · rw [Lib.nDigits_small hk] at hv; omega
          · rw [Lib.nDigits_big hk] at hv
            by_cases k0 : k = 0
            · subst k0; omega
            · have := ih (v / 10) (by omega) (by omega)
              rw [Nat.pow_succ]
              omega
      exact key 9 u h1 (by omega)
    omega
  · exact h1
theorem numF_told : ∀ (l : List Int) (n : Int) (out : List Int), NatL (n :: l) → numF (toldV (n :: l)) 0 0 out = out ++ n :: l
  | [], n, out, h => by
    obtain ⟨h0, h1⟩ := h n (by simp)
    unfold toldV
    rw [List.map_cons, List.map_nil, join_one, itoa_nat h0]
    have hd := digits9 (u := n.toNat) (by omega)
    have hp := Lib.nDigits_pos n.toNat
    have := numF_dec n.toNat 0 0 [] out (by omega) (by omega)
    rw [List.append_nil] at this
    rw [this, numF, if_neg (by omega)]
    congr 2
    omega
  | m :: l, n, out, h => by
    obtain ⟨h0, h1⟩ := h n (by simp)
    have ih := numF_told l m (out ++ [n]) fun x hx => h x (by simp at hx ⊢; exact .inr hx)
    unfold toldV at ih ⊢
    rw [List.map_cons, List.map_cons, join_cons, itoa_nat h0]
    have hd := digits9 (u := n.toNat) (by omega)
    have hp := Lib.nDigits_pos n.toNat
    rw [numF_dec n.toNat 0 0 _ out (by omega) (by omega), numF, if_pos (by decide), if_neg (by omega)]
    have e : (0 : Int) * 10 ^ Lib.nDigits n.toNat + (n.toNat : Int) = n := by omega
    rw [e, ← List.map_cons, ih]
    simp
def numbersV (s : List UInt8) : List Int := numF s 0 0 []
theorem numbers_told {l : List Int} (hne : l ≠ []) (h : NatL l) : numbersV (toldV l) = l := by
  obtain ⟨n, l, rfl⟩ := List.exists_cons_of_ne_nil hne
  exact numF_told l n [] h
/-- The library's reading: the numbers, if each piece is one. -/
def readsV (ps : List (List UInt8)) : Option (List Int) := ps.mapM fun p => match Lib.atoiAll p with | .ok v => some v | _ => none
theorem reads_told {l : List Int} (hne : l ≠ []) (h : NatL l) : readsV (Lib.split (toldV l) [32]) = some l := by
  obtain ⟨n, l, rfl⟩ := List.exists_cons_of_ne_nil hne
  have hs : Lib.split (toldV (n :: l)) [32] = (n :: l).map Lib.itoa := by
    unfold toldV
    rw [List.map_cons]
    refine split_join _ _ fun q hq c hc => ?_
    rw [← List.map_cons] at hq
    obtain ⟨m, hm, rfl⟩ := List.mem_map.1 hq
    rw [itoa_nat (h m hm).1] at hc
    have := dec_digit _ c hc
    intro e
    subst e
    simp at this
  rw [hs]
  clear hs
  generalize n :: l = k at h
  unfold readsV
  induction k with
  | nil => rfl
  | cons x k ih =>
    have hx := h x (by simp)
    rw [List.map_cons, List.mapM_cons, atoi_itoa hx.1 hx.2, ih fun y hy => h y (by simp [hy])]
    rfl

/-! ### Lengths, and one number more -/
theorem pow_le_of_digits : ∀ (k v : Nat), k < Lib.nDigits v → 0 < k → 10 ^ k ≤ v := by
  intro k
  induction k with
  | zero => intro v _ h; omega
  | succ k ih =>
    intro v hv _
    by_cases hk : v < 10
    · rw [Lib.nDigits_small hk] at hv; omega
    · rw [Lib.nDigits_big hk] at hv
      by_cases k0 : k = 0
      · subst k0; omega
      · have := ih (v / 10) (by omega) (by omega)
        rw [Nat.pow_succ]
        omega
theorem itoa_len {n : Int} (h0 : -9223372036854775808 ≤ n) (h1 : n ≤ 9223372036854775807) : (Lib.itoa n).length ≤ 20 := by
  have key : ∀ v : Nat, v ≤ 9223372036854775808 → (Lib.decDigits v).length ≤ 19 := by
    intro v hv
    rw [Lib.decDigits_length]
    rcases Nat.lt_or_ge 19 (Lib.nDigits v) with h | h
    · have := pow_le_of_digits 19 v h (by decide)
      omega
    · exact h
  have k1 := key n.natAbs (by omega)
  have k2 := key n.toNat (by omega)
  have k3 := key (-n).toNat (by omega)
  unfold Lib.itoa
  split <;> simp <;> omega
theorem toldV_len : ∀ (l : List Int), (∀ n ∈ l, -9223372036854775808 ≤ n ∧ n ≤ 9223372036854775807) → (toldV l).length ≤ 21 * l.length
  | [], _ => by simp [toldV, Lib.join, List.intercalate]
  | [n], h => by
    have := itoa_len (h n (by simp)).1 (h n (by simp)).2
    unfold toldV
    rw [List.map_cons, List.map_nil, join_one]
    simp
    omega
  | n :: m :: l, h => by
    have h1 := itoa_len (h n (by simp)).1 (h n (by simp)).2
    have ih := toldV_len (m :: l) fun x hx => h x (by simp at hx ⊢; exact .inr hx)
    unfold toldV at ih ⊢
    rw [List.map_cons, List.map_cons, join_cons, ← List.map_cons]
    simp at ih ⊢
    omega
theorem toldV_snoc (l : List Int) (x : Int) : toldV (l ++ [x]) = if l = [] then Lib.itoa x else toldV l ++ 32 :: Lib.itoa x := by
  induction l with
  | nil => simp [toldV, Lib.join, List.intercalate]
  | cons n l ih =>
    rw [if_neg (by simp)]
    cases l with
    | nil =>
      unfold toldV
      simp [join_one, join_cons]
    | cons m l =>
      rw [if_neg (by simp)] at ih
      unfold toldV at ih ⊢
      simp only [List.cons_append, List.map_cons] at ih ⊢
      rw [join_cons, ih, join_cons]
      simp
/-- The reading, a piece at a time. -/
theorem readsV_snoc (ps : List (List UInt8)) (p : List UInt8) : readsV (ps ++ [p]) = match readsV ps with
    | some l => (match Lib.atoiAll p with | .ok v => some (l ++ [v]) | _ => none)
    | none => none := by
  unfold readsV
  rw [List.mapM_append]
  cases h : List.mapM (fun p => match Lib.atoiAll p with | .ok v => some v | _ => none) ps with
  | none => rfl
  | some l =>
    cases h2 : Lib.atoiAll p <;> simp [h2]
theorem readsV_none {ps qs : List (List UInt8)} (h : readsV ps = none) : readsV (ps ++ qs) = none := by
  unfold readsV at h ⊢
  rw [List.mapM_append, h]
  rfl
theorem readsV_len {ps : List (List UInt8)} {l : List Int} (h : readsV ps = some l) : l.length = ps.length := Lib.mapM_length h
theorem readsV_64 : ∀ {ps : List (List UInt8)} {l : List Int}, readsV ps = some l → ∀ n ∈ l, -9223372036854775808 ≤ n ∧ n ≤ 9223372036854775807
  | [], l, h => by
    simp [readsV] at h
    subst h
    simp
  | p :: ps, l, h => by
    have e : readsV (p :: ps) = match Lib.atoiAll p with | .ok v => (readsV ps).map (v :: ·) | _ => none := by
      unfold readsV
      rw [List.mapM_cons]
      cases Lib.atoiAll p <;> simp
      cases List.mapM (fun p => match Lib.atoiAll p with | .ok v => some v | _ => none) ps <;> rfl
    rw [e] at h
    split at h
    · rename_i v hv
      obtain ⟨l', h', rfl⟩ := Option.map_eq_some_iff.1 h
      intro n hn
      rcases List.mem_cons.1 hn with rfl | hn
      · exact Lib.atoiAll_bounds hv
      · exact readsV_64 h' n hn
    · cases h
end Go.Proofs.YthdenmbfeanioaaGreatDoor
