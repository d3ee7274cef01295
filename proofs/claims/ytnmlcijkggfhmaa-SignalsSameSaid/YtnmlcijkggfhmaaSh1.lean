/- Signals: two pairs of signals; the document's Same in one. No condition. -/
import Derived.Test.YtnmlcijkggfhmaaSf6
namespace Go.Proofs.Ytnmlcijkggfhmaa
open Go.RowKit Go.Shelf
set_option linter.unusedVariables false
set_option linter.all false
set_option maxRecDepth 20000

theorem rsame_spec {w : World} {d T S : Nat} {L : List Snt} {M : Nat → Nat} {d' T' S' : Nat} {L' : List Snt} {M' : Nat → Nat} (h : DS w d T S L M) (h' : DS w d' T' S' L' M') :
    Calls Try.prog 18 #[ptr d, ptr d'] w fun e w' => e = .returned (.bool (sameS T S L M T' S' L' M')) ∧ Only [] w w' := by
  by_cases hT : T = T'
  · subst hT
    by_cases hS : S = S'
    · subst hS
      cases hM : same16 M M' with
      | false =>
        have e : sameS T S L M T S L' M' = false := by unfold sameS; simp [hM]
        rw [e]
        exact rsame_m h h' hM
      | true => exact rsame_l h h' hM
    · have e : sameS T S L M T S' L' M' = false := by unfold sameS; simp [hS]
      rw [e]
      exact rsame_s h h' hS
  · have e : sameS T S L M T' S' L' M' = false := by unfold sameS; simp [hT]
    rw [e]
    exact rsame_t h h' hT
def HalfS (a0 a1 : Int) (b : Nat) (W : World) (p : Option Addr) : Prop := (¬ okSize a0 a1 ∧ p = none) ∨ (okSize a0 a1 ∧ ∃ g mb, p = some ⟨g, 0, none⟩ ∧ SG W g mb a0.toNat a1.toNat [] (fun _ => 0) [] ∧ b ≤ g ∧ b ≤ mb)
def HalfR (a0 a1 : Int) (b : Nat) (W : World) (q : Option Addr) : Prop := (¬ okSize a0 a1 ∧ q = none) ∨ (okSize a0 a1 ∧ ∃ d, q = some ⟨d, 0, none⟩ ∧ DS W d a0.toNat a1.toNat [] (fun _ => 0) ∧ b ≤ d)
theorem HalfS.only0 {a0 a1 : Int} {b : Nat} {W W' : World} {p : Option Addr} (h : HalfS a0 a1 b W p) (o : Only [] W W') : HalfS a0 a1 b W' p := by
  rcases h with h | ⟨h0, g, mb, h1, h2, h3⟩
  · exact .inl h
  · exact .inr ⟨h0, g, mb, h1, h2.only0 o, h3⟩
theorem HalfR.only0 {a0 a1 : Int} {b : Nat} {W W' : World} {q : Option Addr} (h : HalfR a0 a1 b W q) (o : Only [] W W') : HalfR a0 a1 b W' q := by
  rcases h with h | ⟨h0, d, h1, h2, h3⟩
  · exact .inl h
  · exact .inr ⟨h0, d, h1, h2.only0 o, h3⟩
theorem new_half (a0 a1 : Int) (w : World) : Calls Try.prog 8 #[.int .i64 a0, .int .i64 a1] w fun e w' => ∃ p c, e = .returned (.tuple #[.pointer p, .int .i64 c]) ∧ HalfS a0 a1 w.heap.size w' p ∧ Only [] w w' := by
  by_cases h : okSize a0 a1
  · have h' := h
    unfold okSize at h'
    obtain ⟨T, rfl⟩ : ∃ T : Nat, a0 = T := ⟨a0.toNat, by omega⟩
    obtain ⟨S, rfl⟩ : ∃ S : Nat, a1 = S := ⟨a1.toNat, by omega⟩
    refine (new_good T S (by omega) (by omega) (by omega) (by omega) w).mono ?_
    rintro e w' ⟨g, mb, he, hS, hg, hm, o⟩
    exact ⟨_, _, he, .inr ⟨h, g, mb, rfl, by simpa using hS, hg, hm⟩, o⟩
  · refine (new_bad a0 a1 h w).mono ?_
    rintro e w' ⟨he, hw⟩
    obtain rfl := hw.symm
    exact ⟨_, _, he, .inl ⟨h, rfl⟩, Only.refl _ _⟩
theorem rnew_half (a0 a1 : Int) (w : World) : Calls Try.prog 14 #[.int .i64 a0, .int .i64 a1] w fun e w' => ∃ q, e = .returned (.pointer q) ∧ HalfR a0 a1 w.heap.size w' q ∧ Only [] w w' := by
  by_cases h : okSize a0 a1
  · have h' := h
    unfold okSize at h'
    obtain ⟨T, rfl⟩ : ∃ T : Nat, a0 = T := ⟨a0.toNat, by omega⟩
    obtain ⟨S, rfl⟩ : ∃ S : Nat, a1 = S := ⟨a1.toNat, by omega⟩
    refine (rnew_good T S (by omega) (by omega) (by omega) (by omega) w).mono ?_
    rintro e w' ⟨he, hD, o⟩
    exact ⟨_, he, .inr ⟨h, _, rfl, by simpa using hD, Nat.le_refl _⟩, o⟩
  · refine (rnew_bad a0 a1 h w).mono ?_
    rintro e w' ⟨he, hw⟩
    obtain rfl := hw.symm
    exact ⟨_, he, .inl ⟨h, rfl⟩, Only.refl _ _⟩
/-- A pair: the program's signals and the document's, or neither. -/
def PairD (k b : Nat) (W : World) (p q : Option Addr) (G : List Nat) : Prop :=
  (p = none ∧ q = none ∧ G = []) ∨ ∃ T S g mb d L M Bs, p = some ⟨g, 0, none⟩ ∧ q = some ⟨d, 0, none⟩ ∧ G = [g, mb, d] ∧ SG W g mb T S L M Bs ∧ DS W d T S L M ∧ L.length ≤ k ∧ b ≤ g ∧ b ≤ mb ∧ b ≤ d
theorem PairD.half {a0 a1 : Int} {b c : Nat} {W : World} {p q : Option Addr} (h : HalfS a0 a1 b W p) (h' : HalfR a0 a1 b W q) (hc : c ≤ b) : ∃ G, PairD 0 c W p q G ∧ ∀ x ∈ G, b ≤ x := by
  rcases h with ⟨h0, rfl⟩ | ⟨h0, g, mb, rfl, h1, h2, h3⟩
  · rcases h' with ⟨_, rfl⟩ | ⟨h1, _⟩
    · exact ⟨[], .inl ⟨rfl, rfl, rfl⟩, by simp⟩
    · exact absurd h1 h0
  · rcases h' with ⟨h4, _⟩ | ⟨_, d, rfl, h5, h6⟩
    · exact absurd h0 h4
    · exact ⟨[g, mb, d], .inr ⟨_, _, g, mb, d, [], _, [], rfl, rfl, rfl, h1, h5, Nat.le_refl _, by omega, by omega, by omega⟩, by simp; omega⟩
theorem PairD.lt {k b : Nat} {W : World} {p q : Option Addr} {G : List Nat} (h : PairD k b W p q G) : ∀ x ∈ G, x < W.heap.size := by
  rcases h with ⟨_, _, rfl⟩ | ⟨T, S, g, mb, d, L, M, Bs, rfl, rfl, rfl, hS, hD, _⟩
  · simp
  · have h1 := hS.lt
    have h2 := hD.lt
    simp
    exact ⟨h1.1, h1.2.1, h2⟩
theorem PairD.only0 {k b : Nat} {W W' : World} {p q : Option Addr} {G : List Nat} (h : PairD k b W p q G) (o : Only [] W W') : PairD k b W' p q G := by
  rcases h with h | ⟨T, S, g, mb, d, L, M, Bs, h1, h2, h3, hS, hD, h4⟩
  · exact .inl h
  · exact .inr ⟨T, S, g, mb, d, L, M, Bs, h1, h2, h3, hS.only0 o, hD.only0 o, h4⟩
/-- A step on one pair leaves another. -/
theorem PairD.far {k b : Nat} {W W' : World} {p q : Option Addr} {G : List Nat} (h : PairD k b W p q G) {g' mb' d' T' S' : Nat} {L' : List Snt} {M' : Nat → Nat} {Cs : List Nat} (hS' : SG W g' mb' T' S' L' M' Cs) (hD' : DS W d' T' S' L' M') (o : Only [g', mb', d'] W W') (hn : ∀ x ∈ [g', mb', d'], x ∉ G) : PairD k b W' p q G := by
  rcases h with h | ⟨T, S, g, mb, d, L, M, Bs, h1, h2, rfl, hS, hD, h4⟩
  · exact .inl h
  · obtain ⟨cs, hb, _⟩ := hS'.cells
    obtain ⟨f, n, hM, _⟩ := hS'.map
    obtain ⟨cd, A, c, hbd, _⟩ := hD'.cells
    have n1 := hn g' (by simp)
    have n2 := hn mb' (by simp)
    have n3 := hn d' (by simp)
    simp only [List.mem_cons, List.not_mem_nil, or_false, not_or] at n1 n2 n3
    refine .inr ⟨T, S, g, mb, d, L, M, Bs, h1, h2, rfl, hS.only o (by simp; omega) (by simp; omega) (fun x hx => ?_), hD.only o (by simp; omega) (fun x hx => ?_), h4⟩
    · obtain ⟨cx, hcx⟩ := hS.bs x hx
      have e1 : x ≠ g' := Blk.ne_ hcx hb (by decide)
      have e2 : x ≠ mb' := fun e => hM.ne_blk hcx e.symm
      have e3 : x ≠ d' := Blk.ne_ hcx hbd (by decide)
      simp [e1, e2, e3]
    · simp at hx
      rcases hx with rfl | rfl | rfl
      · exact NoS.blk hb (by decide)
      · exact fun cs' h' => hM.ne_blk h' rfl
      · exact NoS.blk hbd (by decide)
/-- What the law's last row asks. -/
theorem PairD.fin {k b k' b' : Nat} {W : World} {p q p' q' : Option Addr} {G G' : List Nat} (h : PairD k b W p q G) (h' : PairD k' b' W p' q' G') (hd : ∀ x ∈ G, x ∉ G') : ∃ c : Bool,
    (∀ V, Only [] W V → Calls Try.prog 17 #[.pointer p, .pointer p'] V fun e w' => e = .returned (.bool c) ∧ Only [] V w') ∧
    (∀ V, Only [] W V → Calls Try.prog 18 #[.pointer q, .pointer q'] V fun e w' => e = .returned (.bool c) ∧ Only [] V w') ∧
    (∀ V, Only [] W V → Calls Try.prog 17 #[.pointer p, .pointer p] V fun e w' => e = .returned (.bool true) ∧ Only [] V w') := by
  have weak : ∀ {f : FuncId} {args : Array Value} {V : World} {v : Value}, (Calls Try.prog f args V fun e w' => e = .returned v ∧ w' = V) → Calls Try.prog f args V fun e w' => e = .returned v ∧ Only [] V w' := fun h => h.mono fun e w' ⟨h1, h2⟩ => ⟨h1, by rw [h2]; exact Only.refl _ _⟩
  have self0 : ∀ V, Calls Try.prog 17 #[.pointer none, .pointer none] V fun e w' => e = .returned (.bool true) ∧ Only [] V w' := fun V => weak (same_no1 none false V (NoSig.nil V).asks rfl)
  rcases h with ⟨rfl, rfl, rfl⟩ | ⟨T, S, g, mb, d, L, M, Bs, rfl, rfl, rfl, hS, hD, _⟩
  · rcases h' with ⟨rfl, rfl, rfl⟩ | ⟨T', S', g', mb', d', L', M', Cs, rfl, rfl, rfl, hS', hD', _⟩
    · exact ⟨true, fun V o => self0 V, fun V o => weak (rsame_nil1 none V), fun V o => self0 V⟩
    · exact ⟨false, fun V o => weak (same_no none (some ⟨g', 0, none⟩) false true V (NoSig.nil V).asks (hS'.only0 o).asks rfl (by simp)), fun V o => weak (rsame_nil1 _ V), fun V o => self0 V⟩
  · have self1 : ∀ V, Only [] W V → Calls Try.prog 17 #[.pointer (some ⟨g, 0, none⟩), .pointer (some ⟨g, 0, none⟩)] V fun e w' => e = .returned (.bool true) ∧ Only [] V w' := fun V o => by
      have := same_spec (hS.only0 o) (hS.only0 o)
      rw [sameS_refl] at this
      exact this
    rcases h' with ⟨rfl, rfl, rfl⟩ | ⟨T', S', g', mb', d', L', M', Cs, rfl, rfl, rfl, hS', hD', _⟩
    · exact ⟨false, fun V o => weak (same_no (some ⟨g, 0, none⟩) none true false V (hS.only0 o).asks (NoSig.nil V).asks rfl (by simp)), fun V o => weak (rsame_nil2 d V), self1⟩
    · exact ⟨sameS T S L M T' S' L' M', fun V o => same_spec (hS.only0 o) (hS'.only0 o), fun V o => rsame_spec (hD.only0 o) (hD'.only0 o), self1⟩
end Go.Proofs.Ytnmlcijkggfhmaa
