/- Spans: plain laws of texts: a span's text is read as it; both readers read alike. No condition. -/
import Derived.Test.YtcocjjapmmpgaaaDoorSp16
namespace Go.Proofs.YtcocjjapmmpgaaaDoor
set_option linter.unusedVariables false
set_option linter.all false

def isDig (c : UInt8) : Prop := 48 ≤ c.toNat ∧ c.toNat ≤ 57
theorem dec_dig (u : Nat) : ∀ c ∈ Lib.decDigits u, isDig c := by
  intro c hc
  rw [Lib.decDigits_eq] at hc
  obtain ⟨t, _, rfl⟩ := List.mem_map.1 hc
  unfold Lib.dg isDig
  rw [UInt8.toNat_ofNat_of_lt' (by simp [UInt8.size]; omega)]
  omega
theorem digs_append : ∀ (A B : List UInt8), (∀ c ∈ A, isDig c) → digs (A ++ B) = digs A ++ digs B
  | [], B, _ => rfl
  | c :: A, B, h => by
    rw [List.cons_append, digs_yes _ (h c (by simp)), digs_yes _ (h c (by simp)), digs_append A B (fun x hx => h x (by simp [hx]))]
    rfl
theorem digs_length : ∀ (A : List UInt8), (∀ c ∈ A, isDig c) → (digs A).length = A.length
  | [], _ => rfl
  | c :: A, h => by
    rw [digs_yes _ (h c (by simp)), List.length_cons, List.length_cons, digs_length A (fun x hx => h x (by simp [hx]))]
theorem byte_nat (x : Nat) (h : x ≤ 9) : (UInt8.ofNat (48 + x)).toNat = 48 + x := by
  rw [UInt8.toNat_ofNat_of_lt' (by simp [UInt8.size]; omega)]
theorem digs_one (x : Nat) (h : x ≤ 9) : digs [UInt8.ofNat (48 + x)] = [⟨(x : Int), by omega⟩] := by
  have hb := byte_nat x h
  rw [digs_yes _ (by rw [hb]; omega)]
  simp only [digs, hb]
  congr 1
  apply Subtype.ext
  simp
  omega
theorem eat_dec (u : Nat) (h : u ≤ 21474836479) : eat 0 (digs (Lib.decDigits u)) = ((u : Int), false) := by
  induction u using Nat.strongRecOn with
  | _ u ih =>
    rw [Lib.decDigits]
    by_cases hu : u < 10
    · rw [dif_pos hu, digs_one u (by omega)]
      simp [eat]
    · rw [dif_neg hu, digs_append _ _ (dec_dig _), digs_one (u % 10) (by omega)]
      have := eat_snoc _ 0 _ ⟨((u % 10 : Nat) : Int), by omega⟩ (ih (u / 10) (by omega) (by omega))
      rw [this, if_neg (by omega)]
      simp only [Prod.mk.injEq, and_true]
      omega
theorem val_dec (u : Nat) : val (Lib.decDigits u) = (u : Int) := by
  induction u using Nat.strongRecOn with
  | _ u ih =>
    rw [Lib.decDigits]
    by_cases hu : u < 10
    · rw [dif_pos hu]
      have := val_snoc [] (UInt8.ofNat (48 + u))
      rw [List.nil_append, byte_nat u (by omega)] at this
      rw [this]; simp [val]; omega
    · rw [dif_neg hu, val_snoc, ih (u / 10) (by omega), byte_nat (u % 10) (by omega)]
      omega
theorem eat_shift : ∀ (ds : List Dig) (a b v : Int), 0 ≤ b → b ≤ a → eat a ds = (v, false) → eat b ds = (v - (a - b) * (10 : Int) ^ ds.length, false)
  | [], a, b, v, _, _, h => by simp [eat] at h ⊢; omega
  | d :: r, a, b, v, h0, h1, h => by
    simp only [eat] at h ⊢
    by_cases hc : 2147483647 < a
    · rw [if_pos hc] at h; simp at h
    · rw [if_neg hc] at h
      rw [if_neg (by omega)]
      have hd := d.2
      rw [eat_shift r (10 * a + d.1) (10 * b + d.1) v (by omega) (by omega) h, List.length_cons, Int.pow_succ]
      have : (10 * a + d.1 - (10 * b + d.1)) * (10 : Int) ^ r.length = (a - b) * ((10 : Int) ^ r.length * 10) := by
        rw [show 10 * a + d.1 - (10 * b + d.1) = (a - b) * 10 by omega, Int.mul_assoc, Int.mul_comm 10]
      rw [this]
theorem val_from : ∀ (l : List UInt8) (a : Int), l.foldl (fun a c => a * 10 + ((c.toNat : Int) - 48)) a = a * (10 : Int) ^ l.length + val l
  | [], a => by simp [val]
  | c :: l, a => by
    simp only [List.foldl_cons, val]
    rw [val_from l, val_from l (0 * 10 + _), List.length_cons, Int.pow_succ]
    have : a * ((10 : Int) ^ l.length * 10) = a * 10 * (10 : Int) ^ l.length := by rw [Int.mul_comm ((10 : Int) ^ l.length), Int.mul_assoc]
    rw [this, Int.add_mul, Int.zero_mul, Int.zero_add]
    omega
/-- The nine digits behind the point. -/
def fracN (n : Nat) : List UInt8 := (Lib.decDigits (1000000000 + n)).drop 1
theorem frac_cons (n : Nat) (h : n < 1000000000) : Lib.decDigits (1000000000 + n) = 49 :: fracN n := by
  unfold fracN
  rw [Lib.decDigits_eq, Lib.nDigits_unique 9 _ (by omega) (by omega), List.range_succ_eq_map]
  simp only [List.map_cons, List.drop_succ_cons, List.drop_zero]
  congr 1
  unfold Lib.dg
  rw [show 48 + (1000000000 + n) / 10 ^ (9 + 1 - 1 - 0) % 10 = 49 by omega]
  rfl
theorem frac_len (n : Nat) (h : n < 1000000000) : (fracN n).length = 9 := by
  have := congrArg List.length (frac_cons n h)
  rw [Lib.decDigits_length, Lib.nDigits_unique 9 _ (by omega) (by omega)] at this
  simp at this
  omega
theorem frac_dig (n : Nat) : ∀ c ∈ fracN n, isDig c := fun c hc => dec_dig _ c (List.mem_of_mem_drop hc)
theorem eat_frac (n : Nat) (h : n < 1000000000) : eat 0 (digs (fracN n)) = ((n : Int), false) := by
  have h1 := eat_dec (1000000000 + n) (by omega)
  rw [frac_cons n h, digs_yes _ (by decide)] at h1
  simp only [eat] at h1
  rw [if_neg (by omega)] at h1
  have h2 := eat_shift _ _ 0 _ (by omega) (by decide) h1
  rw [h2, digs_length _ (frac_dig n), frac_len n h]
  simp
  omega
theorem val_frac (n : Nat) (h : n < 1000000000) : val (fracN n) = (n : Int) := by
  have h1 := val_dec (1000000000 + n)
  rw [frac_cons n h] at h1
  unfold val at h1
  rw [List.foldl_cons, val_from, frac_len n h] at h1
  simp at h1
  omega
theorem index_dot : ∀ (A D : List UInt8), (∀ c ∈ A, isDig c) → Lib.index (A ++ 46 :: D) [46] = (A.length : Int)
  | [], D, _ => by simp [Lib.index]
  | c :: A, D, h => by
    have ih := index_dot A D (fun x hx => h x (by simp [hx]))
    have hc := h c (by simp)
    have hne : ((46 : UInt8) == c) = false := by
      simp only [beq_eq_false_iff_ne]
      rintro rfl
      unfold isDig at hc
      revert hc
      decide
    rw [List.cons_append, Lib.index]
    simp only [List.isPrefixOf, hne, Bool.false_and, Bool.false_eq_true, if_false]
    rw [ih, if_neg (by first | (simp; done) | (simp; omega))]
    simp
theorem cut_dot (A D : List UInt8) (h : ∀ c ∈ A, isDig c) : Lib.cut (A ++ 46 :: D) [46] = (A, D, true) := by
  unfold Lib.cut
  rw [index_dot A D h, if_pos (by omega)]
  simp
theorem text_eq (s n : Nat) (hn : n < 1000000000) : textN s n = Lib.decDigits s ++ 46 :: fracN n := by
  unfold textN fracN
  rw [itoa_nat (by omega), itoa_nat (by omega), show (1000000000 + (n : Int)).toNat = 1000000000 + n by omega]
  simp
theorem text_size (s n : Nat) (hs : s ≤ 2147483647) (hn : n < 1000000000) : (Lib.decDigits s).length ≤ 10 ∧ 1 ≤ (Lib.decDigits s).length ∧ (textN s n).length = (Lib.decDigits s).length + 10 := by
  refine ⟨dig_len 9 s (by omega), dig_pos s, ?_⟩
  rw [text_eq s n hn, List.length_append, List.length_cons, frac_len n hn]
theorem parse_text {s n : Int} (h : mayN s n = true) : parseN (textN s n) = (s, n, 0) := by
  have b := may_iff.1 h
  obtain ⟨s, rfl⟩ : ∃ m : Nat, s = m := ⟨s.toNat, by omega⟩
  obtain ⟨n, rfl⟩ : ∃ m : Nat, n = m := ⟨n.toNat, by omega⟩
  obtain ⟨l1, l2, l3⟩ := text_size s n (by omega) (by omega)
  have hc : Lib.cut (textN s n) [46] = (Lib.decDigits s, fracN n, true) := by rw [text_eq s n (by omega)]; exact cut_dot _ _ (dec_dig s)
  have he : eats (Lib.decDigits s) (fracN n) = ((s : Int), (n : Int)) := by unfold eats; simp only [eat_dec s (by omega), eat_frac n (by omega)]
  unfold parseN
  rw [if_neg (by omega), hc, he]
  exact if_pos ⟨h, rfl⟩
theorem rparse_text {s n : Int} (h : mayN s n = true) : rparseN (textN s n) = (s, n, 0) := by
  have b := may_iff.1 h
  obtain ⟨s, rfl⟩ : ∃ m : Nat, s = m := ⟨s.toNat, by omega⟩
  obtain ⟨n, rfl⟩ : ∃ m : Nat, n = m := ⟨n.toNat, by omega⟩
  obtain ⟨l1, l2, l3⟩ := text_size s n (by omega) (by omega)
  unfold rparseN
  rw [if_neg (by omega), l3, show (Lib.decDigits s).length + 10 - 10 = (Lib.decDigits s).length by omega]
  have h1 : (textN s n).take (Lib.decDigits s).length = Lib.decDigits s := by rw [text_eq s n (by omega)]; simp
  have h2 : (textN s n).drop ((Lib.decDigits s).length + 1) = fracN n := by rw [text_eq s n (by omega)]; simp
  rw [h1, h2, val_dec, val_frac n (by omega)]
  exact if_pos ⟨h, rfl⟩
theorem fin_shape (t : List UInt8) (a b : Int) : finN t a b = (0, 0, 4) ∨ (mayN a b = true ∧ textN a b = t ∧ finN t a b = (a, b, 0)) := by
  unfold finN
  by_cases h : mayN a b = true ∧ textN a b = t
  · exact .inr ⟨h.1, h.2, if_pos h⟩
  · exact .inl (if_neg h)
theorem parse_shape (t : List UInt8) : parseN t = (0, 0, 4) ∨ ∃ a b, mayN a b = true ∧ textN a b = t ∧ parseN t = (a, b, 0) := by
  unfold parseN
  split
  · exact .inl rfl
  · rcases fin_shape t (eats (Lib.cut t [46]).1 (Lib.cut t [46]).2.1).1 (eats (Lib.cut t [46]).1 (Lib.cut t [46]).2.1).2 with h | h
    · exact .inl h
    · exact .inr ⟨_, _, h⟩
theorem rparse_shape (t : List UInt8) : rparseN t = (0, 0, 4) ∨ ∃ a b, mayN a b = true ∧ textN a b = t ∧ rparseN t = (a, b, 0) := by
  unfold rparseN
  split
  · exact .inl rfl
  · rcases fin_shape t (val (t.take (t.length - 10))) (val (t.drop (t.length - 10 + 1))) with h | h
    · exact .inl h
    · exact .inr ⟨_, _, h⟩
/-- Both readers read alike. -/
theorem parse_alike (t : List UInt8) : rparseN t = parseN t := by
  rcases parse_shape t with h | ⟨a, b, hm, rfl, h⟩
  · rcases rparse_shape t with h' | ⟨a, b, hm, rfl, h'⟩
    · rw [h, h']
    · rw [parse_text hm] at h; simp at h
  · rw [h, rparse_text hm]
end Go.Proofs.YtcocjjapmmpgaaaDoor
