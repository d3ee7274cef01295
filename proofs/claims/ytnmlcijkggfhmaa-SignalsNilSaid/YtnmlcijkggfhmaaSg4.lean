/- Signals, the program's: the walks of New, Clip and Send. Condition: the signals lie, or are not there. -/
import Derived.Test.YtnmlcijkggfhmaaSg3
import Derived.Deep.RegionHeld3
import Derived.BigRegion
import Derived.Deep.MidRow
import Derived.Deep.WholeRow
namespace Go.Proofs.Ytnmlcijkggfhmaa
open Go.RowKit
set_option linter.unusedVariables false
set_option linter.all false
set_option maxRecDepth 20000
attribute [local go_sem ↓] app_hide

/-- The cells of signals that nobody made. -/
def Z61 : Array Value := #[.int .i64 0, .int .i64 0, .int .i64 0] ++ Array.replicate 32 (.int .u32 0) ++ #[.map none]
theorem info61 : (Try.prog.info? 61).map (fun i => (i.zero, i.size)) = some (some (.agg Z61), 36) := by kernel_rfl
theorem zero61 (W : World) : (zeroValue 61).run Try.prog W = .ok (.agg Z61) W := (zero_of_info info61).1 W
theorem Z61_rep (i : Nat) (h : i < 32) : Z61[3 + i]? = some (.int .u32 0) := by
  unfold Z61
  rw [Array.getElem?_append_left (by simp; omega), Array.getElem?_append_right (by simp)]
  simp [h]
theorem SC_new (T S : Nat) (mb : Nat) : SC (((Z61.setIfInBounds 0 (.int .i64 T)).setIfInBounds 1 (.int .i64 S)).setIfInBounds 35 (.map (some mb))) T S [] (fun _ => 0) mb := by
  have hz : Z61.size = 36 := by decide +kernel
  refine ⟨by simp [hz], ?_, ?_, ?_, fun i hi => ?_, fun i hi => ?_, set_eq (by simp [hz])⟩
  · exact (set_ne (by omega)).trans ((set_ne (by omega)).trans (set_eq (by omega)))
  · exact (set_ne (by omega)).trans (set_eq (by simp [hz]))
  · exact (set_ne (by omega)).trans ((set_ne (by omega)).trans ((set_ne (by omega)).trans rfl))
  · exact (set_ne (by omega)).trans ((set_ne (by omega)).trans ((set_ne (by omega)).trans (Z61_rep i (by omega))))
  · refine (set_ne (by omega)).trans ((set_ne (by omega)).trans ((set_ne (by omega)).trans ?_))
    have := Z61_rep (16 + i) (by omega)
    rw [show 3 + (16 + i) = 19 + i by omega] at this
    exact this
def newE (v : Value) (c : Int) (e : Ending) : Prop := e = .returned (.tuple #[v, .int .i64 c])
def okSize (T S : Int) : Prop := 1 ≤ T ∧ T ≤ 16 ∧ 1 ≤ S ∧ S ≤ 32
theorem new_bad (T S : Int) (hT : ¬ okSize T S) (w : World) : Calls Try.prog 8 #[.int .i64 T, .int .i64 S] w fun e w' => newE (.pointer none) 2 e ∧ w' = w := by
  unfold okSize at hT
  by_cases c1 : T < 1
  · have d1 : decide (T < 1) = true := decide_eq_true c1
    clear hT
    go_enter Try.func8, Try.ntmps8
    go_wp2_with fail
    exact bodyPost_ret (v := .tuple #[.pointer none, .int .i64 2]) (by simp [results, Try.results8, go_sem]) rfl ⟨rfl, rfl⟩
  have d1 : decide (T < 1) = false := decide_eq_false c1
  by_cases c2 : 16 < T
  · have d2 : decide (16 < T) = true := decide_eq_true c2
    clear hT
    go_enter Try.func8, Try.ntmps8
    go_wp2_with fail
    exact bodyPost_ret (v := .tuple #[.pointer none, .int .i64 2]) (by simp [results, Try.results8, go_sem]) rfl ⟨rfl, rfl⟩
  have d2 : decide (16 < T) = false := decide_eq_false c2
  by_cases c3 : S < 1
  · have d3 : decide (S < 1) = true := decide_eq_true c3
    clear hT
    go_enter Try.func8, Try.ntmps8
    go_wp2_with fail
    exact bodyPost_ret (v := .tuple #[.pointer none, .int .i64 2]) (by simp [results, Try.results8, go_sem]) rfl ⟨rfl, rfl⟩
  have d3 : decide (S < 1) = false := decide_eq_false c3
  have d4 : decide (32 < S) = true := decide_eq_true (by omega)
  clear hT
  go_enter Try.func8, Try.ntmps8
  go_wp2_with fail
  exact bodyPost_ret (v := .tuple #[.pointer none, .int .i64 2]) (by simp [results, Try.results8, go_sem]) rfl ⟨rfl, rfl⟩
theorem new_good (T S : Nat) (h1 : 1 ≤ T) (h2 : T ≤ 16) (h3 : 1 ≤ S) (h4 : S ≤ 32) (w : World) : Calls Try.prog 8 #[.int .i64 T, .int .i64 S] w fun e w' => ∃ g mb, newE (ptr g) 0 e ∧ SG w' g mb T S [] (fun _ => 0) [] ∧ w.heap.size ≤ g ∧ w.heap.size ≤ mb ∧ Only [] w w' := by
  have d1 : decide ((T : Int) < 1) = false := decide_eq_false (by omega)
  have d2 : decide (16 < (T : Int)) = false := decide_eq_false (by omega)
  have d3 : decide ((S : Int) < 1) = false := decide_eq_false (by omega)
  have d4 : decide (32 < (S : Int)) = false := decide_eq_false (by omega)
  have hZ := zero61
  have hmm := @run_makeMap Try.prog
  have hM := hide (Mp.made Try.prog 64 w)
  go_enter Try.func8, Try.ntmps8
  go_wp2_with fail
  have o1 : Only [] w (w.alloc (.map #[] 0)) := (Only.refl [] w).alloc _
  refine bodyPost_ret (v := .tuple #[.pointer (some ⟨w.heap.size + 1, 0, none⟩), .int .i64 0]) (by simp [results, Try.results8, go_sem]) rfl ⟨w.heap.size + 1, w.heap.size, rfl, ?_, by omega, Nat.le_refl _, o1.alloc _⟩
  have hb := Blk.new (w.alloc (.map #[] 0)) 61 (((Z61.setIfInBounds 0 (.int .i64 T)).setIfInBounds 1 (.int .i64 S)).setIfInBounds 35 (.map (some w.heap.size)))
  rw [World.size_alloc] at hb
  exact ⟨⟨_, hb, SC_new T S w.heap.size⟩, ⟨_, 0, hM.out.alloc _, ⟨fun k v h => by simp at h, fun t m _ _ _ h => absurd rfl h⟩⟩, SInv.nil T S, h1, h2, h3, h4, fun _ _ => by decide, fun b hb => by simp at hb⟩

/-! ## One more in a queue -/
def I64s (l : List Int) : List Value := l.map fun v => .int .i64 v
theorem next_cap : ∀ n, n < 40 → Builtin.nextslicecap (n + 1) n ≤ 100 := by decide
theorem int2_info : (Try.prog.info? 2).map (fun i => (i.zero, i.size, i.bytes)) = some (some (.int .i64 0), 1, 8) := by kernel_rfl
theorem clip_any (A : Option Addr) (n c : Nat) (h : n ≤ c) (w : World) : Calls Try.prog 26 #[.slice A n c] w fun e w' => e = .returned (.slice A n n) ∧ w' = w := by
  have i0 : (n : Int) ≤ (c : Int) := by omega
  have i1 : (0 : Int) ≤ (n : Int) := by omega
  go_enter Try.func26, Try.ntmps26
  go_wp2_with fail
  go_ret
  exact ⟨rfl, rfl⟩
/-- append(s, v) where there is no room. -/
theorem app_full (W : World) (Bs : List Nat) (A : Option Addr) (l : List Int) (v : Int) (n : Nat) (hn : l.length = n) (hA : n = 0 → A = none) (h : I64 W Bs A l) (hl : l.length < 40) :
    ∃ c w2, (AppH #[29, 29] 29 #[.slice A n n, .slice (some ⟨W.heap.size, 0, none⟩) 1 1]).run Try.prog (W.alloc (.cells #[.int .i64 v] 2)) = .ok (.slice (some ⟨W.heap.size + 1, 0, none⟩) (n + 1) c) w2 ∧
      I64 w2 [W.heap.size + 1] (some ⟨W.heap.size + 1, 0, none⟩) (l ++ [v]) ∧ (∃ cs, Blk w2 (W.heap.size + 1) 2 cs) ∧ n + 1 ≤ c ∧ Only [] W w2 := by
  obtain ⟨i0, hi, hz0, hz1, hz2⟩ := info_parts int2_info
  have o1 : Only [] W (W.alloc (.cells #[.int .i64 v] 2)) := (Only.refl [] W).alloc _
  have hnew : ∀ j u, ([.int .i64 v] : List Value)[j]? = some u → (W.alloc (.cells #[.int .i64 v] 2)).cell? ((⟨W.heap.size, 0, none⟩ : Addr).add j) = some u := fun j u hj => by
    have := (Blk.new W 2 #[.int .i64 v]).cell j
    rw [add_mk, Nat.zero_add, this, List.getElem?_toArray]
    exact hj
  have key : ∀ (w2 : World) (c : Nat) (cs : Array Value), w2 = (W.alloc (.cells #[.int .i64 v] 2)).drew.alloc (.cells cs 2) → n + 1 ≤ c → (∀ (j : Nat) (x : Int), (l ++ [v])[j]? = some x → cs[j]? = some (.int .i64 x)) →
      (AppH #[29, 29] 29 #[.slice A n n, .slice (some ⟨W.heap.size, 0, none⟩) 1 1]).run Try.prog (W.alloc (.cells #[.int .i64 v] 2)) = .ok (.slice (some ⟨W.heap.size + 1, 0, none⟩) (n + 1) c) w2 →
      ∃ c w2, (AppH #[29, 29] 29 #[.slice A n n, .slice (some ⟨W.heap.size, 0, none⟩) 1 1]).run Try.prog (W.alloc (.cells #[.int .i64 v] 2)) = .ok (.slice (some ⟨W.heap.size + 1, 0, none⟩) (n + 1) c) w2 ∧
      I64 w2 [W.heap.size + 1] (some ⟨W.heap.size + 1, 0, none⟩) (l ++ [v]) ∧ (∃ cs, Blk w2 (W.heap.size + 1) 2 cs) ∧ n + 1 ≤ c ∧ Only [] W w2 := by
    rintro w2 c cs rfl hc hcs hrun
    have hb := Blk.new (W.alloc (.cells #[.int .i64 v] 2)).drew 2 cs
    rw [World.size_drew, World.size_alloc] at hb
    exact ⟨c, _, hrun, fun _ => ⟨_, 0, cs, rfl, by simp, hb, fun j x hj => by rw [Nat.zero_add]; exact hcs j x hj⟩, ⟨cs, hb⟩, hc, o1.drew.alloc _⟩
  rcases Nat.eq_zero_or_pos n with h0 | h0
  · subst h0
    obtain rfl := hA rfl
    obtain rfl : l = [] := List.eq_nil_of_length_eq_zero hn
    have hrun := run_append_nil (P := Try.prog) (W.alloc (.cells #[.int .i64 v] 2)) 29 29 2 i0 (.int .i64 0) Try.underlying29 hi hz0 ⟨W.heap.size, 0, none⟩ 1 1 [.int .i64 v] (by rw [hz1]; rfl) hnew (by omega) (by omega) (by rw [hz2]; omega)
    rw [app_hide, World.size_alloc] at hrun
    refine key _ _ _ rfl (grownCap_ge _ _ _ _) (fun j x hj => ?_) hrun
    rw [List.nil_append] at hj
    obtain ⟨hj1, hj2⟩ := List.getElem?_eq_some_iff.1 hj
    have hj0 : j = 0 := by simpa using hj1
    subst hj0
    have hx : x = v := hj2.symm
    subst hx
    rw [Array.getElem?_append_left (by simp)]
    rfl
  · obtain ⟨g, o, cs, rfl, _, hb, hc⟩ := h (by omega)
    have hrun := run_append_grow (P := Try.prog) (W.alloc (.cells #[.int .i64 v] 2)) 29 29 2 i0 (.int .i64 0) Try.underlying29 hi hz0 ⟨g, o, none⟩ n n (I64s l) (by simp [I64s, hz1, hn]) (fun j u hj => by
        simp only [I64s, List.getElem?_map, Option.map_eq_some_iff] at hj
        obtain ⟨x, hx, rfl⟩ := hj
        rw [add_mk]
        exact o1.keep0 ((hb.cell (o + j)).trans (hc j x hx))) ⟨W.heap.size, 0, none⟩ 1 1 [.int .i64 v] (by rw [hz1]; rfl) hnew (by omega) (by omega) (growslice_fits (by omega) (by rw [hz2]; omega))
    rw [app_hide, World.size_alloc] at hrun
    refine key _ _ _ rfl (grownCap_ge _ _ _ _) (fun j x hj => ?_) hrun
    have hjl := (List.getElem?_eq_some_iff.1 hj).1
    rw [List.length_append] at hjl
    rw [Array.getElem?_append_left (by simp [I64s]; simpa using hjl)]
    have e : (I64s l).toArray ++ ([.int .i64 v] : List Value).toArray = (I64s (l ++ [v])).toArray := by simp [I64s]
    have e' : ((I64s l).toArray ++ #[.int .i64 v] : Array Value) = (I64s (l ++ [v])).toArray := e
    rw [e', List.getElem?_toArray]
    simp only [I64s, List.getElem?_map, hj]
    rfl
/-! ## Send -/
noncomputable def updV (f : Value → Option Value) (k v : Value) : Value → Option Value := fun x => @ite _ (x = k) (Classical.propDecidable _) (some v) (f x)
theorem updV_same (f : Value → Option Value) (k v : Value) : updV f k v k = some v := by unfold updV; exact if_pos rfl
theorem updV_other (f : Value → Option Value) (k v x : Value) (h : x ≠ k) : updV f k v x = f x := by unfold updV; exact if_neg h
theorem zero29 (W : World) : (zeroValue 29).run Try.prog W = .ok (.slice none 0 0) W := by kernel_rfl
/-- What the map answers at a key. -/
theorem SG.look {w : World} {g mb T S : Nat} {L : List Snt} {M : Nat → Nat} {Bs : List Nat} (h : SG w g mb T S L M Bs) (t n : Nat) (ht : t < T) (hn : n < 32) : ∃ A c, (∀ V, Only [] w V → (Instr.lookup 59 (.map (some mb)) (.agg #[.int .i64 t, .int .i64 n]) false).run Try.prog V = .ok (.slice A (if 16 ≤ n then (queueOf L t n).length else 0) c) V) ∧
    (if 16 ≤ n then (queueOf L t n).length else 0) ≤ c ∧ (16 ≤ n → I64 w Bs A (queueOf L t n)) ∧ ((if 16 ≤ n then (queueOf L t n).length else 0) = 0 → A = none) := by
  obtain ⟨f, m, hM, hQ⟩ := h.map
  have ht1 := h.t1
  obtain ⟨l, hl⟩ := keyOfV t n (by omega) hn
  by_cases c : 16 ≤ n ∧ queueOf L t n ≠ []
  · rw [if_pos c.1]
    obtain ⟨A, cc, h1, h2, h4⟩ := hQ.2 t n (by omega) c.1 hn c.2
    exact ⟨A, cc, fun V o => ((hM.only o (by simp)).look keyed Try.underlying59 hl h1).1, h2, fun _ => h4, fun h0 => absurd (List.eq_nil_of_length_eq_zero h0) c.2⟩
  · have hf : f (keyV t n) = none := by
      cases hf : f (keyV t n) with
      | none => rfl
      | some v =>
        obtain ⟨t', m', e, _, hm, _, hq⟩ := hQ.1 _ _ hf
        obtain ⟨rfl, rfl⟩ := keyV_inj e
        exact absurd ⟨hm, hq⟩ c
    have hz : (if 16 ≤ n then (queueOf L t n).length else 0) = 0 := by
      split
      · rename_i hc
        have : queueOf L t n = [] := by
          cases hq : queueOf L t n with
          | nil => rfl
          | cons a r => exact absurd ⟨hc, by rw [hq]; simp⟩ c
        rw [this]; rfl
      · rfl
    rw [hz]
    refine ⟨none, 0, fun V o => ((hM.only o (by simp)).miss keyed Try.underlying59 (zero29 V) hl hf).1, Nat.le_refl _, fun hc hp => ?_, fun _ => rfl⟩
    rw [if_pos hc] at hz
    omega
theorem SC.used {cs : Array Value} {T S : Nat} {L : List Snt} {M : Nat → Nat} {mb : Nat} (h : SC cs T S L M mb) (L' : List Snt) {k p : Nat} (hk : k < 16) (hp : pendOf L' k = p) (ho : ∀ i, i ≠ k → pendOf L' i = pendOf L i) :
    SC ((cs.setIfInBounds 2 (.int .i64 (usedOf L' : Nat))).setIfInBounds (19 + k) (.int .u32 (p : Nat))) T S L' M mb := by
  have hz := h.size
  refine ⟨by simp [hz], (set_ne (by omega)).trans ((set_ne (by omega)).trans h.t), (set_ne (by omega)).trans ((set_ne (by omega)).trans h.s), (set_ne (by omega)).trans (set_eq (by omega)), fun i hi => (set_ne (by omega)).trans ((set_ne (by omega)).trans (h.m i hi)), fun i hi => ?_, (set_ne (by omega)).trans ((set_ne (by omega)).trans h.q)⟩
  by_cases e : i = k
  · subst e
    rw [hp]
    exact set_eq (by simp [hz]; omega)
  · rw [ho i e]
    exact (set_ne (by omega)).trans ((set_ne (by omega)).trans (h.p i hi))
theorem sent_high {w : World} {g mb T S : Nat} {L : List Snt} {M : Nat → Nat} {Bs : List Nat} (h : SG w g mb T S L M Bs) {t n : Nat} {v : Int} (ht : t < T) (hn : 16 ≤ n) (hn2 : n < 32) (hu : usedOf L < S) {f : Value → Option Value} (hQ : QF w L Bs f) {w2 w3 : World} {gq c n' : Nat}
    (o2 : Only [] w w2) (o3 : Only [mb] w2 w3) (hgq : w.heap.size ≤ gq) (I2 : I64 w2 [gq] (some ⟨gq, 0, none⟩) (queueOf L t n ++ [v])) (B2 : ∃ cs, Blk w2 gq 2 cs) (hcc : (queueOf L t n).length + 1 ≤ c)
    (M3 : Mp Try.prog 64 w3 mb (updV f (keyV t n) (.slice (some ⟨gq, 0, none⟩) ((queueOf L t n).length + 1) c)) n') :
    SG ((w3.setCell ⟨g, 2, none⟩ (.int .i64 ((usedOf L : Int) + 1))).setCell ⟨g, 19 + t, none⟩ (.int .u32 ((pendOf L t ||| 2 ^ n : Nat) : Int))) g mb T S (L ++ [⟨t, n, v⟩]) M (gq :: Bs) := by
  have hne := h.ne
  have hnb := h.nb
  obtain ⟨hgl, hml, hbl⟩ := h.lt
  have ht1 := h.t1
  have oA : Only [mb] w w3 := (o2.mono (by simp)).trans' o3
  have oB : Only [g] w3 ((w3.setCell ⟨g, 2, none⟩ (.int .i64 ((usedOf L : Int) + 1))).setCell ⟨g, 19 + t, none⟩ (.int .u32 ((pendOf L t ||| 2 ^ n : Nat) : Int))) :=
    ((Only.refl [g] w3).setCell (p := ⟨g, 2, none⟩) (.inl (by simp)) _).setCell (p := ⟨g, 19 + t, none⟩) (.inl (by simp)) _
  have oC : Only [g, mb] w ((w3.setCell ⟨g, 2, none⟩ (.int .i64 ((usedOf L : Int) + 1))).setCell ⟨g, 19 + t, none⟩ (.int .u32 ((pendOf L t ||| 2 ^ n : Nat) : Int))) :=
    (oA.mono (by simp)).trans oB (by simp)
  have oD : Only [g, mb] w2 ((w3.setCell ⟨g, 2, none⟩ (.int .i64 ((usedOf L : Int) + 1))).setCell ⟨g, 19 + t, none⟩ (.int .u32 ((pendOf L t ||| 2 ^ n : Nat) : Int))) :=
    (o3.mono (by simp)).trans oB (by simp)
  obtain ⟨cs, hb, hC⟩ := h.cells
  have hbB : ∀ b ∈ Bs, b ∉ [g, mb] := fun b hb => by have := hnb b hb; simp [this]
  have hqn : gq ∉ [g, mb] := by simp; omega
  have hused : (usedOf (L ++ [⟨t, n, v⟩]) : Nat) = usedOf L + 1 := by rw [used_snoc, if_pos hn]
  refine ⟨⟨_, ((hb.only oA (by simpa using Ne.symm hne)).set_ 2 _).set_ (19 + t) _, ?_⟩, ⟨_, n', M3.only oB (by simpa using hne), ⟨fun k x hk => ?_, fun t' m' h1 h2 h3 h4 => ?_⟩⟩, h.inv.sendHigh ht hn hn2 hu, h.t0, h.t1, h.s0, h.s1, h.mlt, fun b hb => ?_⟩
  · have := hC.used (L ++ [⟨t, n, v⟩]) (k := t) (p := pendOf L t ||| 2 ^ n) (by omega) (by rw [pend_snoc, if_pos rfl]) (fun i hi => by rw [pend_snoc, if_neg (Ne.symm hi)])
    rw [hused] at this
    exact this
  · by_cases e : k = keyV t n
    · subst e
      exact ⟨t, n, rfl, by omega, hn, hn2, by rw [queue_snoc, if_pos ⟨rfl, rfl⟩]; simp⟩
    · rw [updV_other _ _ _ _ e] at hk
      obtain ⟨t', m', e1, e2, e3, e4, e5⟩ := hQ.1 k x hk
      refine ⟨t', m', e1, e2, e3, e4, ?_⟩
      rw [queue_snoc]
      split
      · simp
      · exact e5
  · rw [queue_snoc] at h4 ⊢
    by_cases e : t = t' ∧ n = m'
    · obtain ⟨rfl, rfl⟩ := e
      rw [if_pos ⟨rfl, rfl⟩]
      refine ⟨some ⟨gq, 0, none⟩, c, ?_, by simpa using hcc, (I2.only oD (by simpa using hqn)).mono (by simp)⟩
      rw [updV_same]
      simp
    · rw [if_neg e] at h4 ⊢
      obtain ⟨A, cc, a1, a2, a3⟩ := hQ.2 t' m' h1 h2 h3 h4
      refine ⟨A, cc, ?_, a2, (a3.only oC hbB).mono (by simp +contextual)⟩
      rw [updV_other _ _ _ _ (fun ek => by obtain ⟨rfl, rfl⟩ := keyV_inj ek; exact e ⟨rfl, rfl⟩)]
      exact a1
  · rcases List.mem_cons.1 hb with rfl | hb
    · obtain ⟨cs, h2⟩ := B2
      exact ⟨cs, h2.only oD hqn⟩
    · obtain ⟨cs, h2⟩ := h.bs b hb
      exact ⟨cs, h2.only oC (hbB b hb)⟩
theorem or_pow (p n : Nat) (hp : p < 4294967296) (hn : n < 32) : bits .or .u32 (p : Int) (IntKind.u32.wrap (2 ^ n)) = ((p ||| 2 ^ n : Nat) : Int) := by
  have h1 : 2 ^ n < 4294967296 := Nat.pow_lt_pow_right (show 1 < 2 by decide) hn
  have h2 : IntKind.u32.wrap (2 ^ n) = ((2 ^ n : Nat) : Int) := by
    rw [IntKind.wrap_u32', show ((2 : Int) ^ n) = ((2 ^ n : Nat) : Int) by simp]
    exact Int.emod_eq_of_lt (Int.natCast_nonneg _) (show ((2 ^ n : Nat) : Int) < ((4294967296 : Nat) : Int) from Int.ofNat_lt.2 h1)
  rw [h2, u32_or_nat p (2 ^ n) hp h1]
set_option maxHeartbeats 4000000 in
theorem send_high {w : World} {g mb T S : Nat} {L : List Snt} {M : Nat → Nat} {Bs : List Nat} (h : SG w g mb T S L M Bs) (t n : Nat) (v : Int) (ht : t < T) (hn : 16 ≤ n) (hn2 : n < 32) (hu : usedOf L < S) :
    Calls Try.prog 10 #[ptr g, .int .i64 t, .int .i64 n, .int .i64 v] w fun e w' => e = .returned (.int .i64 0) ∧ (∃ Bs', SG w' g mb T S (L ++ [⟨t, n, v⟩]) M Bs' ∧ ∀ b ∈ Bs', b ∈ Bs ∨ w.heap.size ≤ b) ∧ Only [g, mb] w w' := by
  have AS := ask_sg h (t : Int)
  rw [askC_in ⟨by omega, by omega⟩] at AS
  have AS := hide AS
  have HG := hide h
  have hne := h.ne
  obtain ⟨hgl, hml, hbl⟩ := h.lt
  have hs1 := h.s1
  have ht1 := h.t1
  obtain ⟨cs, hb, hC⟩ := h.cells
  have c1 := (hb.cell 1).trans hC.s
  have c2 := (hb.cell 2).trans hC.u
  have c35 := (hb.cell 35).trans hC.q
  have c19 := (hb.cell (19 + t)).trans (hC.p t (by omega))
  obtain ⟨A, c, hlk, hcl, hI, hA⟩ := h.look t n ht hn2
  rw [if_pos hn] at hlk hcl hA
  have hI := hI hn
  have hq : (queueOf L t n).length ≤ usedOf L := by
    unfold queueOf usedOf
    rw [List.length_map, ← List.countP_eq_length_filter]
    refine List.countP_mono_left (fun x _ hx => ?_)
    simp only [isK, Bool.and_eq_true, beq_iff_eq] at hx
    simp only [decide_eq_true_eq]
    omega
  obtain ⟨u, hu'⟩ : ∃ u, usedOf L = u := ⟨_, rfl⟩
  obtain ⟨q, hq'⟩ : ∃ q, queueOf L t n = q := ⟨_, rfl⟩
  obtain ⟨m, hm⟩ : ∃ m, q.length = m := ⟨_, rfl⟩
  obtain ⟨pd, hpd⟩ : ∃ pd, pendOf L t = pd := ⟨_, rfl⟩
  have hplt := h.plt t
  rw [hq'] at hlk hcl hA hI hq
  rw [hm] at hlk hcl hA hq
  rw [hu'] at c2 hu hq
  rw [hpd] at c19 hplt
  have d1 : decide ((n : Int) < 1) = false := decide_eq_false (by omega)
  have d2 : decide (31 < (n : Int)) = false := decide_eq_false (by omega)
  have d3 : decide (16 ≤ (n : Int)) = true := decide_eq_true (by omega)
  have d4 : decide ((S : Int) ≤ (u : Int)) = false := decide_eq_false (by omega)
  have d5 : decide (S ≤ u) = false := decide_eq_false (by omega)
  have i0 : (0 : Int) ≤ (t : Int) := by omega
  have i1 : (t : Int) < 16 := by omega
  have LK := hide hlk
  have HI := hide hI
  have HA := hide hA
  have HM := hide hm
  have HQ := hide hq'
  have HU := hide hu'
  have HPD := hide hpd
  have HC := hide hC
  have HB := hide hb
  clear hlk hI hA hm hq' hu' hpd h hC hb hbl
  unfold ptr at AS ⊢
  go_enter Try.func10, Try.ntmps10
  go_wp2_with (go_at_call 25; refine AS.out.mono ?_; rintro e w' ⟨rfl, hw⟩; obtain rfl := hw.symm; clear hw)
  go_quiet (fail)
  have oD : Only [] w (w.drewN nq) := (Only.refl [] w).drewN nq
  have hsz : (w.drewN nq).heap.size = w.heap.size := rfl
  revert oD hsz
  generalize w.drewN nq = w0
  intro oD hsz
  go_wp2_with fail
  obtain ⟨W0, hW0⟩ : ∃ W0, w0.alloc (.cells #[.int .i64 (t : Int), .int .i64 (n : Int)] 64) = W0 := ⟨_, rfl⟩
  have hK := Blk.new w0 64 #[.int .i64 (t : Int), .int .i64 (n : Int)]
  have oW0 : Only [] w (w0.alloc (.cells #[.int .i64 (t : Int), .int .i64 (n : Int)] 64)) := oD.alloc _
  have hS0 : (w0.alloc (.cells #[.int .i64 (t : Int), .int .i64 (n : Int)] 64)).heap.size = w.heap.size + 1 := by rw [World.size_alloc, hsz]
  rw [hW0] at hK oW0 hS0 ⊢
  rw [hsz] at hK
  clear hW0 oD hsz
  have C35 := hide (fun V (o : Only [mb] W0 V) => o.keep (oW0.keep0 c35) (by simpa using Ne.symm hne))
  have CK := hide (fun V (o : Only [mb] W0 V) => show V.cell? ⟨w.heap.size, 0, none⟩ = some (.int .i64 (t : Int)) ∧ V.cell? ⟨w.heap.size, 1, none⟩ = some (.int .i64 (n : Int)) from ⟨((hK.only o (by simp; omega)).cell 0).trans rfl, ((hK.only o (by simp; omega)).cell 1).trans rfl⟩)
  obtain ⟨cc, w2, e1, I2, B2, hcc, o2⟩ := app_full W0.drew Bs A q v m HM.out HA.out (HI.out.only oW0.drew (by simp)) (by rw [HM.out]; omega)
  rw [World.size_drew, hS0] at e1 I2 B2
  have e1 : (AppH #[29, 29] 29 #[.slice A m m, .slice (some ⟨w.heap.size + 1, 0, none⟩) 1 1]).run Try.prog (W0.alloc (.cells #[.int .i64 v] 2)).drew = .ok (.slice (some ⟨w.heap.size + 1 + 1, 0, none⟩) (m + 1) cc) w2 := e1
  obtain ⟨f, nm, hMp, hQF⟩ := HG.out.map
  obtain ⟨l, hl⟩ := keyOfV t n (by omega) hn2
  obtain ⟨w3, e2, M3, o3⟩ := (hMp.only ((oW0.drew).trans0 o2) (by simp)).put keyed Try.underlying59 hl (.slice (some ⟨w.heap.size + 1 + 1, 0, none⟩) (m + 1) cc) (updV f (keyV t n) (.slice (some ⟨w.heap.size + 1 + 1, 0, none⟩) (m + 1) cc)) (updV_same ..) (fun k hk => updV_other _ _ _ k hk)
  unfold keyV at e2
  have O2 := hide ((oW0.drew).trans0 o2)
  have O3 := hide o3
  have OW := hide oW0
  have OS2 := hide (((Only.refl [mb] W0).drew).trans0 o2)
  have OS3 := hide ((((Only.refl [mb] W0).drew).trans0 o2).trans' o3)
  have M3 := hide M3
  have QF0 := hide hQF
  have I2 := hide I2
  have B2 := hide B2
  have HL := hide (show w.heap.size < w0.heap.size + 1 ∨ True from .inr trivial)
  clear hMp hQF hK oW0 o2 o3 hl HL
  -- what stands behind the store into the map
  have oF : Only [mb] w w3 := (O2.out.mono (by simp)).trans' O3.out
  have m2 : w3.cell? ⟨g, 2, none⟩ = some (.int .i64 (u : Int)) := oF.keep c2 (by simpa using Ne.symm hne)
  have n2 : w3.frozen? ⟨g, 2, none⟩ = false := (oF.frozen (p := ⟨g, 2, none⟩) hgl (by simpa using Ne.symm hne)).trans (HB.out.frozen 2)
  have m19 : (w3.setCell ⟨g, 2, none⟩ (.int .i64 ((u : Int) + 1))).cell? ⟨g, 19 + t, none⟩ = some (.int .u32 (pd : Int)) := by
    rw [World.cell?_setCell_other _ _ _ _ (by intro e; injection e with _ e1 _; omega)]
    exact oF.keep c19 (by simpa using Ne.symm hne)
  have n19 : (w3.setCell ⟨g, 2, none⟩ (.int .i64 ((u : Int) + 1))).frozen? ⟨g, 19 + t, none⟩ = false := by
    rw [World.frozen?_setCell]
    exact (oF.frozen (p := ⟨g, 19 + t, none⟩) hgl (by simpa using Ne.symm hne)).trans (HB.out.frozen (19 + t))
  have z5 : (0 : Int) ≤ (n : Int) := by omega
  have z6 := or_pow pd n hplt hn2
  obtain ⟨pd2, hpd2⟩ : ∃ pd2, pd ||| 2 ^ n = pd2 := ⟨_, rfl⟩
  have FIN := hide (sent_high HG.out (v := v) ht hn hn2 (by rw [HU.out]; exact hu) QF0.out O2.out O3.out (by omega : w.heap.size ≤ w.heap.size + 1 + 1) (by rw [HQ.out]; exact I2.out) B2.out (by rw [HQ.out, HM.out]; exact hcc) (by rw [HQ.out, HM.out]; exact M3.out))
  rw [HU.out, HPD.out, hpd2] at FIN
  rw [hpd2] at z6
  have FB := hide (show ∀ b ∈ (w.heap.size + 1 + 1) :: Bs, b ∈ Bs ∨ w.heap.size ≤ b from fun b hb => by rcases List.mem_cons.1 hb with rfl | hb; (exact .inr (by omega)); (exact .inl hb))
  have FO := hide (show Only [g, mb] w _ from ((((oF.mono (by simp)).setCell (p := ⟨g, 2, none⟩) (.inl (by simp)) (.int .i64 ((u : Int) + 1))).setCell (p := ⟨g, 19 + t, none⟩) (.inl (by simp)) (.int .u32 (pd2 : Int))).drew))
  clear hpd2 oF
  refine wp_region_held_drew (S := (fun V => Only [mb] W0 V)) (by kernel_rfl) ((Only.refl [mb] W0).drew) (fun hHeld => ?_)
  refine wpAnyH_take (i := 0) (oi := ⟨some 44, _, _, _, _, _⟩) (v := ?va1) rfl (by kernel_rfl) (by kernel_rfl) (by kernel_rfl) (fun _ _ _ h => h) (Or.inl ⟨by rfl, ?hya1⟩) (by assumption) ?resta1
  case hya1 => (intro V hSw; (try dsimp only at hSw); go_simp; first | done | (with_reducible rfl))
  try simp only [Act.put, List.setIfInBounds_toArray, List.set_cons_zero, List.set_cons_succ]
  refine wpAnyH_take (i := 1) (oi := ⟨some 45, _, _, _, _, _⟩) (v := ?va2) rfl (by kernel_rfl) (by kernel_rfl) (by kernel_rfl) (fun _ _ _ h => h) (Or.inl ⟨by rfl, ?hya2⟩) (by assumption) ?resta2
  case hya2 => (intro V hSw; (try dsimp only at hSw); go_simp; first | done | (with_reducible rfl))
  try simp only [Act.put, List.setIfInBounds_toArray, List.set_cons_zero, List.set_cons_succ]
  refine wpAnyH_take (i := 2) (oi := ⟨some 46, _, _, _, _, _⟩) (v := ?va3) rfl (by kernel_rfl) (by kernel_rfl) (by kernel_rfl) (fun _ _ _ h => h) (Or.inl ⟨by rfl, ?hya3⟩) (by assumption) ?resta3
  case hya3 => (intro V hSw; (try dsimp only at hSw); go_simp; first | done | (with_reducible rfl))
  try simp only [Act.put, List.setIfInBounds_toArray, List.set_cons_zero, List.set_cons_succ]
  refine wpAnyH_take (i := 3) (oi := ⟨some 47, _, _, _, _, _⟩) (v := ?va4) rfl (by kernel_rfl) (by kernel_rfl) (by kernel_rfl) (fun _ _ _ h => h) (Or.inl ⟨by rfl, ?hya4⟩) (by assumption) ?resta4
  case hya4 => (intro V hSw; (try dsimp only at hSw); have z := C35.out V hSw; go_simp; first | done | (with_reducible rfl))
  try simp only [Act.put, List.setIfInBounds_toArray, List.set_cons_zero, List.set_cons_succ]
  refine wpAnyH_take (i := 4) (oi := ⟨some 48, _, _, _, _, _⟩) (v := ?va5) rfl (by kernel_rfl) (by kernel_rfl) (by kernel_rfl) (fun _ _ _ h => h) (Or.inl ⟨by rfl, ?hya5⟩) (by assumption) ?resta5
  case hya5 => (intro V hSw; (try dsimp only at hSw); obtain ⟨z, z'⟩ := CK.out V hSw; go_simp; first | done | (with_reducible rfl))
  try simp only [Act.put, List.setIfInBounds_toArray, List.set_cons_zero, List.set_cons_succ]
  refine wpAnyH_take (i := 5) (oi := ⟨some 49, _, _, _, _, _⟩) (v := ?va6) rfl (by kernel_rfl) (by kernel_rfl) (by kernel_rfl) (fun _ _ _ h => h) (Or.inl ⟨by rfl, ?hya6⟩) (by assumption) ?resta6
  case hya6 => (intro V hSw; (try dsimp only at hSw); go_simp; first | done | (with_reducible rfl))
  try simp only [Act.put, List.setIfInBounds_toArray, List.set_cons_zero, List.set_cons_succ]
  refine wpAnyH_take (i := 6) (oi := ⟨some 50, _, _, _, _, _⟩) (v := ?va7) rfl (by kernel_rfl) (by kernel_rfl) (by kernel_rfl) (fun _ _ _ h => h) (Or.inl ⟨by rfl, ?hya7⟩) (by assumption) ?resta7
  case hya7 => (intro V hSw; (try dsimp only at hSw); go_simp; first | done | (with_reducible rfl))
  try simp only [Act.put, List.setIfInBounds_toArray, List.set_cons_zero, List.set_cons_succ]
  refine wpAnyH_take (i := 7) (oi := ⟨some 51, _, _, _, _, _⟩) (v := ?va8) rfl (by kernel_rfl) (by kernel_rfl) (by kernel_rfl) (fun _ _ _ h => h) (Or.inl ⟨by rfl, ?hya8⟩) (by assumption) ?resta8
  case hya8 => (intro V hSw; (try dsimp only at hSw); go_simp; first | done | (with_reducible rfl))
  try simp only [Act.put, List.setIfInBounds_toArray, List.set_cons_zero, List.set_cons_succ]
  refine wpAnyH_take (i := 8) (oi := ⟨some 52, _, _, _, _, _⟩) (v := ?va9) rfl (by kernel_rfl) (by kernel_rfl) (by kernel_rfl) (fun _ _ _ h => h) (Or.inl ⟨by rfl, ?hya9⟩) (by assumption) ?resta9
  case hya9 => (intro V hSw; (try dsimp only at hSw); have z := C35.out V hSw; go_simp; first | done | (with_reducible rfl))
  try simp only [Act.put, List.setIfInBounds_toArray, List.set_cons_zero, List.set_cons_succ]
  refine wpAnyH_take (i := 9) (oi := ⟨some 53, _, _, _, _, _⟩) (v := ?va10) rfl (by kernel_rfl) (by kernel_rfl) (by kernel_rfl) (fun _ _ _ h => h) (Or.inl ⟨by rfl, ?hya10⟩) (by assumption) ?resta10
  case hya10 => (intro V hSw; (try dsimp only at hSw); obtain ⟨z, z'⟩ := CK.out V hSw; go_simp; first | done | (with_reducible rfl))
  try simp only [Act.put, List.setIfInBounds_toArray, List.set_cons_zero, List.set_cons_succ]
  refine wpAnyH_take (i := 12) (oi := ⟨some 56, _, _, _, _, _⟩) (v := ?va11) rfl (by kernel_rfl) (by kernel_rfl) (by kernel_rfl) (fun _ _ _ h => h) (Or.inl ⟨by rfl, ?hya11⟩) (by assumption) ?resta11
  case hya11 => (intro V hSw; (try dsimp only at hSw); go_simp; first | done | (with_reducible rfl))
  try simp only [Act.put, List.setIfInBounds_toArray, List.set_cons_zero, List.set_cons_succ]
  refine wpAnyH_ready (rs := [10, 13]) (by kernel_rfl) (by simp) ?_
  refine AllReadyH.cons (o := ⟨some 54, _, _, _, _, _⟩) rfl (fun K hK => ?_) (AllReadyH.cons (o := ⟨some 57, _, _, _, _, _⟩) rfl (fun K hK => ?_) (AllReadyH.nil))
  · skip
    rw [if_pos (by rfl)]
    have z := LK.out _ (OW.out.drew)
    go_simp
    try dsimp only
    refine hK.out _ _ (hHeld) (fun hHeld => ?_)
    clear hK K
    try simp only [Act.put, List.setIfInBounds_toArray, List.set_cons_zero, List.set_cons_succ]
    refine wpAnyH_ready (rs := [11, 13]) (by kernel_rfl) (by simp) ?_
    refine AllReadyH.cons (o := ⟨some 55, _, _, _, _, _⟩) rfl (fun K hK => ?_) (AllReadyH.cons (o := ⟨some 57, _, _, _, _, _⟩) rfl (fun K hK => ?_) (AllReadyH.nil))
    · skip
      rw [if_pos (by rfl)]
      go_simp
      (with_reducible refine (clip_any A m c hcl _).mono ?_); rintro e w' ⟨rfl, hw⟩; obtain rfl := hw.symm; clear hw
      try dsimp only
      refine hK.out _ _ (hHeld) (fun hHeld => ?_)
      clear hK K
      try simp only [Act.put, List.setIfInBounds_toArray, List.set_cons_zero, List.set_cons_succ]
      refine wpAnyH_ready (rs := [13]) (by kernel_rfl) (by simp) ?_
      refine AllReadyH.cons (o := ⟨some 57, _, _, _, _, _⟩) rfl (fun K hK => ?_) (AllReadyH.nil)
      rw [if_pos (by rfl)]
      go_simp
      try dsimp only
      refine hK.out _ _ (((Only.refl [mb] W0).alloc _).drew) (fun hHeld => ?_)
      clear hK K
      try simp only [Act.put, List.setIfInBounds_toArray, List.set_cons_zero, List.set_cons_succ]
      refine wpAnyH_ready (rs := [14]) (by kernel_rfl) (by simp) ?_
      refine AllReadyH.cons (o := ⟨some 58, _, _, _, _, _⟩) rfl (fun K hK => ?_) (AllReadyH.nil)
      rw [if_pos (by rfl)]
      go_simp
      try dsimp only
      refine hK.out _ _ (OS2.out) (fun hHeld => ?_)
      clear hK K
      try simp only [Act.put, List.setIfInBounds_toArray, List.set_cons_zero, List.set_cons_succ]
      refine wpAnyH_ready (rs := [15]) (by kernel_rfl) (by simp) ?_
      refine AllReadyH.cons (o := ⟨none, _, _, _, _, _⟩) rfl (fun K hK => ?_) (AllReadyH.nil)
      rw [if_pos (by rfl)]
      go_simp
      try dsimp only
      refine hK.out _ _ (OS3.out) (fun hHeld => ?_)
      clear hK K
      try simp only [Act.put, List.setIfInBounds_toArray, List.set_cons_zero, List.set_cons_succ]
      refine wpAnyH_done (by kernel_rfl) ?_ _
      go_wp2_with fail
      refine wp_region_held_drew (S := (fun _ => True)) (by kernel_rfl) (trivial) (fun hHeld => ?_)
      refine wpAnyH_take (i := 0) (oi := ⟨some 66, _, _, _, _, _⟩) (v := ?vb1_1) rfl (by kernel_rfl) (by kernel_rfl) (by kernel_rfl) (fun _ _ _ h => h) (Or.inl ⟨by rfl, ?hyb1_1⟩) (by assumption) ?restb1_1
      case hyb1_1 => (intro V hSw; (try dsimp only at hSw); go_simp; first | done | (with_reducible rfl))
      try simp only [Act.put, List.setIfInBounds_toArray, List.set_cons_zero, List.set_cons_succ]
      refine wpAnyH_take (i := 1) (oi := ⟨some 67, _, _, _, _, _⟩) (v := ?vb1_2) rfl (by kernel_rfl) (by kernel_rfl) (by kernel_rfl) (fun _ _ _ h => h) (Or.inl ⟨by rfl, ?hyb1_2⟩) (by assumption) ?restb1_2
      case hyb1_2 => (intro V hSw; (try dsimp only at hSw); go_simp; first | done | (with_reducible rfl))
      try simp only [Act.put, List.setIfInBounds_toArray, List.set_cons_zero, List.set_cons_succ]
      refine wpAnyH_take (i := 2) (oi := ⟨some 68, _, _, _, _, _⟩) (v := ?vb1_3) rfl (by kernel_rfl) (by kernel_rfl) (by kernel_rfl) (fun _ _ _ h => h) (Or.inl ⟨by rfl, ?hyb1_3⟩) (by assumption) ?restb1_3
      case hyb1_3 => (intro V hSw; (try dsimp only at hSw); go_simp; first | done | (with_reducible rfl))
      try simp only [Act.put, List.setIfInBounds_toArray, List.set_cons_zero, List.set_cons_succ]
      refine wpAnyH_take (i := 3) (oi := ⟨some 69, _, _, _, _, _⟩) (v := ?vb1_4) rfl (by kernel_rfl) (by kernel_rfl) (by kernel_rfl) (fun _ _ _ h => h) (Or.inl ⟨by rfl, ?hyb1_4⟩) (by assumption) ?restb1_4
      case hyb1_4 => (intro V hSw; (try dsimp only at hSw); go_simp; first | done | (with_reducible rfl))
      try simp only [Act.put, List.setIfInBounds_toArray, List.set_cons_zero, List.set_cons_succ]
      refine wpAnyH_take (i := 4) (oi := ⟨some 70, _, _, _, _, _⟩) (v := ?vb1_5) rfl (by kernel_rfl) (by kernel_rfl) (by kernel_rfl) (fun _ _ _ h => h) (Or.inl ⟨by rfl, ?hyb1_5⟩) (by assumption) ?restb1_5
      case hyb1_5 => (intro V hSw; (try dsimp only at hSw); go_simp; first | done | (with_reducible rfl))
      try simp only [Act.put, List.setIfInBounds_toArray, List.set_cons_zero, List.set_cons_succ]
      refine wpAnyH_take (i := 6) (oi := ⟨some 72, _, _, _, _, _⟩) (v := ?vb1_6) rfl (by kernel_rfl) (by kernel_rfl) (by kernel_rfl) (fun _ _ _ h => h) (Or.inl ⟨by rfl, ?hyb1_6⟩) (by assumption) ?restb1_6
      case hyb1_6 => (intro V hSw; (try dsimp only at hSw); go_simp; first | done | (with_reducible rfl))
      try simp only [Act.put, List.setIfInBounds_toArray, List.set_cons_zero, List.set_cons_succ]
      refine wpAnyH_take (i := 7) (oi := ⟨some 73, _, _, _, _, _⟩) (v := ?vb1_7) rfl (by kernel_rfl) (by kernel_rfl) (by kernel_rfl) (fun _ _ _ h => h) (Or.inl ⟨by rfl, ?hyb1_7⟩) (by assumption) ?restb1_7
      case hyb1_7 => (intro V hSw; (try dsimp only at hSw); go_simp; first | done | (with_reducible rfl))
      try simp only [Act.put, List.setIfInBounds_toArray, List.set_cons_zero, List.set_cons_succ]
      refine wpAnyH_take (i := 9) (oi := ⟨some 75, _, _, _, _, _⟩) (v := ?vb1_8) rfl (by kernel_rfl) (by kernel_rfl) (by kernel_rfl) (fun _ _ _ h => h) (Or.inl ⟨by rfl, ?hyb1_8⟩) (by assumption) ?restb1_8
      case hyb1_8 => (intro V hSw; (try dsimp only at hSw); go_simp; first | done | (with_reducible rfl))
      try simp only [Act.put, List.setIfInBounds_toArray, List.set_cons_zero, List.set_cons_succ]
      refine wpAnyH_take (i := 10) (oi := ⟨some 76, _, _, _, _, _⟩) (v := ?vb1_9) rfl (by kernel_rfl) (by kernel_rfl) (by kernel_rfl) (fun _ _ _ h => h) (Or.inl ⟨by rfl, ?hyb1_9⟩) (by assumption) ?restb1_9
      case hyb1_9 => (intro V hSw; (try dsimp only at hSw); go_simp; first | done | (with_reducible rfl))
      try simp only [Act.put, List.setIfInBounds_toArray, List.set_cons_zero, List.set_cons_succ]
      refine wpAnyH_ready (rs := [5]) (by kernel_rfl) (by simp) ?_
      refine AllReadyH.cons (o := ⟨some 71, _, _, _, _, _⟩) rfl (fun K hK => ?_) (AllReadyH.nil)
      rw [if_pos (by rfl)]
      go_simp
      try dsimp only
      refine hK.out _ _ (trivial) (fun hHeld => ?_)
      clear hK K
      try simp only [Act.put, List.setIfInBounds_toArray, List.set_cons_zero, List.set_cons_succ]
      refine wpAnyH_take (i := 8) (oi := ⟨some 74, _, _, _, _, _⟩) (v := ?vb1_10) rfl (by kernel_rfl) (by kernel_rfl) (by kernel_rfl) (fun _ _ _ h => h) (Or.inl ⟨by rfl, ?hyb1_10⟩) (by assumption) ?restb1_10
      case hyb1_10 => (intro V hSw; (try dsimp only at hSw); go_simp; first | done | (with_reducible rfl))
      try simp only [Act.put, List.setIfInBounds_toArray, List.set_cons_zero, List.set_cons_succ]
      refine wpAnyH_take (i := 11) (oi := ⟨some 77, _, _, _, _, _⟩) (v := ?vb1_11) rfl (by kernel_rfl) (by kernel_rfl) (by kernel_rfl) (fun _ _ _ h => h) (Or.inl ⟨by rfl, ?hyb1_11⟩) (by assumption) ?restb1_11
      case hyb1_11 => (intro V hSw; (try dsimp only at hSw); go_simp; first | done | (with_reducible rfl))
      try simp only [Act.put, List.setIfInBounds_toArray, List.set_cons_zero, List.set_cons_succ]
      refine wpAnyH_ready (rs := [12]) (by kernel_rfl) (by simp) ?_
      refine AllReadyH.cons (o := ⟨none, _, _, _, _, _⟩) rfl (fun K hK => ?_) (AllReadyH.nil)
      rw [if_pos (by rfl)]
      go_simp
      try dsimp only
      refine hK.out _ _ (trivial) (fun hHeld => ?_)
      clear hK K
      try simp only [Act.put, List.setIfInBounds_toArray, List.set_cons_zero, List.set_cons_succ]
      refine wpAnyH_done (by kernel_rfl) ?_ _
      go_wp2_with fail
      go_ret
      exact ⟨rfl, ⟨_, FIN.out.only0 (Only.refl [] _).drew, FB.out⟩, FO.out⟩
    · skip
      rw [if_pos (by rfl)]
      go_simp
      try dsimp only
      refine hK.out _ _ (((Only.refl [mb] W0).alloc _).drew) (fun hHeld => ?_)
      clear hK K
      try simp only [Act.put, List.setIfInBounds_toArray, List.set_cons_zero, List.set_cons_succ]
      refine wpAnyH_ready (rs := [11]) (by kernel_rfl) (by simp) ?_
      refine AllReadyH.cons (o := ⟨some 55, _, _, _, _, _⟩) rfl (fun K hK => ?_) (AllReadyH.nil)
      rw [if_pos (by rfl)]
      go_simp
      (with_reducible refine (clip_any A m c hcl _).mono ?_); rintro e w' ⟨rfl, hw⟩; obtain rfl := hw.symm; clear hw
      try dsimp only
      refine hK.out _ _ (hHeld) (fun hHeld => ?_)
      clear hK K
      try simp only [Act.put, List.setIfInBounds_toArray, List.set_cons_zero, List.set_cons_succ]
      refine wpAnyH_ready (rs := [14]) (by kernel_rfl) (by simp) ?_
      refine AllReadyH.cons (o := ⟨some 58, _, _, _, _, _⟩) rfl (fun K hK => ?_) (AllReadyH.nil)
      rw [if_pos (by rfl)]
      go_simp
      try dsimp only
      refine hK.out _ _ (OS2.out) (fun hHeld => ?_)
      clear hK K
      try simp only [Act.put, List.setIfInBounds_toArray, List.set_cons_zero, List.set_cons_succ]
      refine wpAnyH_ready (rs := [15]) (by kernel_rfl) (by simp) ?_
      refine AllReadyH.cons (o := ⟨none, _, _, _, _, _⟩) rfl (fun K hK => ?_) (AllReadyH.nil)
      rw [if_pos (by rfl)]
      go_simp
      try dsimp only
      refine hK.out _ _ (OS3.out) (fun hHeld => ?_)
      clear hK K
      try simp only [Act.put, List.setIfInBounds_toArray, List.set_cons_zero, List.set_cons_succ]
      refine wpAnyH_done (by kernel_rfl) ?_ _
      go_wp2_with fail
      refine wp_region_held_drew (S := (fun _ => True)) (by kernel_rfl) (trivial) (fun hHeld => ?_)
      refine wpAnyH_take (i := 0) (oi := ⟨some 66, _, _, _, _, _⟩) (v := ?vb2_1) rfl (by kernel_rfl) (by kernel_rfl) (by kernel_rfl) (fun _ _ _ h => h) (Or.inl ⟨by rfl, ?hyb2_1⟩) (by assumption) ?restb2_1
      case hyb2_1 => (intro V hSw; (try dsimp only at hSw); go_simp; first | done | (with_reducible rfl))
      try simp only [Act.put, List.setIfInBounds_toArray, List.set_cons_zero, List.set_cons_succ]
      refine wpAnyH_take (i := 1) (oi := ⟨some 67, _, _, _, _, _⟩) (v := ?vb2_2) rfl (by kernel_rfl) (by kernel_rfl) (by kernel_rfl) (fun _ _ _ h => h) (Or.inl ⟨by rfl, ?hyb2_2⟩) (by assumption) ?restb2_2
      case hyb2_2 => (intro V hSw; (try dsimp only at hSw); go_simp; first | done | (with_reducible rfl))
      try simp only [Act.put, List.setIfInBounds_toArray, List.set_cons_zero, List.set_cons_succ]
      refine wpAnyH_take (i := 2) (oi := ⟨some 68, _, _, _, _, _⟩) (v := ?vb2_3) rfl (by kernel_rfl) (by kernel_rfl) (by kernel_rfl) (fun _ _ _ h => h) (Or.inl ⟨by rfl, ?hyb2_3⟩) (by assumption) ?restb2_3
      case hyb2_3 => (intro V hSw; (try dsimp only at hSw); go_simp; first | done | (with_reducible rfl))
      try simp only [Act.put, List.setIfInBounds_toArray, List.set_cons_zero, List.set_cons_succ]
      refine wpAnyH_take (i := 3) (oi := ⟨some 69, _, _, _, _, _⟩) (v := ?vb2_4) rfl (by kernel_rfl) (by kernel_rfl) (by kernel_rfl) (fun _ _ _ h => h) (Or.inl ⟨by rfl, ?hyb2_4⟩) (by assumption) ?restb2_4
      case hyb2_4 => (intro V hSw; (try dsimp only at hSw); go_simp; first | done | (with_reducible rfl))
      try simp only [Act.put, List.setIfInBounds_toArray, List.set_cons_zero, List.set_cons_succ]
      refine wpAnyH_take (i := 4) (oi := ⟨some 70, _, _, _, _, _⟩) (v := ?vb2_5) rfl (by kernel_rfl) (by kernel_rfl) (by kernel_rfl) (fun _ _ _ h => h) (Or.inl ⟨by rfl, ?hyb2_5⟩) (by assumption) ?restb2_5
      case hyb2_5 => (intro V hSw; (try dsimp only at hSw); go_simp; first | done | (with_reducible rfl))
      try simp only [Act.put, List.setIfInBounds_toArray, List.set_cons_zero, List.set_cons_succ]
      refine wpAnyH_take (i := 6) (oi := ⟨some 72, _, _, _, _, _⟩) (v := ?vb2_6) rfl (by kernel_rfl) (by kernel_rfl) (by kernel_rfl) (fun _ _ _ h => h) (Or.inl ⟨by rfl, ?hyb2_6⟩) (by assumption) ?restb2_6
      case hyb2_6 => (intro V hSw; (try dsimp only at hSw); go_simp; first | done | (with_reducible rfl))
      try simp only [Act.put, List.setIfInBounds_toArray, List.set_cons_zero, List.set_cons_succ]
      refine wpAnyH_take (i := 7) (oi := ⟨some 73, _, _, _, _, _⟩) (v := ?vb2_7) rfl (by kernel_rfl) (by kernel_rfl) (by kernel_rfl) (fun _ _ _ h => h) (Or.inl ⟨by rfl, ?hyb2_7⟩) (by assumption) ?restb2_7
      case hyb2_7 => (intro V hSw; (try dsimp only at hSw); go_simp; first | done | (with_reducible rfl))
      try simp only [Act.put, List.setIfInBounds_toArray, List.set_cons_zero, List.set_cons_succ]
      refine wpAnyH_take (i := 9) (oi := ⟨some 75, _, _, _, _, _⟩) (v := ?vb2_8) rfl (by kernel_rfl) (by kernel_rfl) (by kernel_rfl) (fun _ _ _ h => h) (Or.inl ⟨by rfl, ?hyb2_8⟩) (by assumption) ?restb2_8
      case hyb2_8 => (intro V hSw; (try dsimp only at hSw); go_simp; first | done | (with_reducible rfl))
      try simp only [Act.put, List.setIfInBounds_toArray, List.set_cons_zero, List.set_cons_succ]
      refine wpAnyH_take (i := 10) (oi := ⟨some 76, _, _, _, _, _⟩) (v := ?vb2_9) rfl (by kernel_rfl) (by kernel_rfl) (by kernel_rfl) (fun _ _ _ h => h) (Or.inl ⟨by rfl, ?hyb2_9⟩) (by assumption) ?restb2_9
      case hyb2_9 => (intro V hSw; (try dsimp only at hSw); go_simp; first | done | (with_reducible rfl))
      try simp only [Act.put, List.setIfInBounds_toArray, List.set_cons_zero, List.set_cons_succ]
      refine wpAnyH_ready (rs := [5]) (by kernel_rfl) (by simp) ?_
      refine AllReadyH.cons (o := ⟨some 71, _, _, _, _, _⟩) rfl (fun K hK => ?_) (AllReadyH.nil)
      rw [if_pos (by rfl)]
      go_simp
      try dsimp only
      refine hK.out _ _ (trivial) (fun hHeld => ?_)
      clear hK K
      try simp only [Act.put, List.setIfInBounds_toArray, List.set_cons_zero, List.set_cons_succ]
      refine wpAnyH_take (i := 8) (oi := ⟨some 74, _, _, _, _, _⟩) (v := ?vb2_10) rfl (by kernel_rfl) (by kernel_rfl) (by kernel_rfl) (fun _ _ _ h => h) (Or.inl ⟨by rfl, ?hyb2_10⟩) (by assumption) ?restb2_10
      case hyb2_10 => (intro V hSw; (try dsimp only at hSw); go_simp; first | done | (with_reducible rfl))
      try simp only [Act.put, List.setIfInBounds_toArray, List.set_cons_zero, List.set_cons_succ]
      refine wpAnyH_take (i := 11) (oi := ⟨some 77, _, _, _, _, _⟩) (v := ?vb2_11) rfl (by kernel_rfl) (by kernel_rfl) (by kernel_rfl) (fun _ _ _ h => h) (Or.inl ⟨by rfl, ?hyb2_11⟩) (by assumption) ?restb2_11
      case hyb2_11 => (intro V hSw; (try dsimp only at hSw); go_simp; first | done | (with_reducible rfl))
      try simp only [Act.put, List.setIfInBounds_toArray, List.set_cons_zero, List.set_cons_succ]
      refine wpAnyH_ready (rs := [12]) (by kernel_rfl) (by simp) ?_
      refine AllReadyH.cons (o := ⟨none, _, _, _, _, _⟩) rfl (fun K hK => ?_) (AllReadyH.nil)
      rw [if_pos (by rfl)]
      go_simp
      try dsimp only
      refine hK.out _ _ (trivial) (fun hHeld => ?_)
      clear hK K
      try simp only [Act.put, List.setIfInBounds_toArray, List.set_cons_zero, List.set_cons_succ]
      refine wpAnyH_done (by kernel_rfl) ?_ _
      go_wp2_with fail
      go_ret
      exact ⟨rfl, ⟨_, FIN.out.only0 (Only.refl [] _).drew, FB.out⟩, FO.out⟩
  · skip
    rw [if_pos (by rfl)]
    go_simp
    try dsimp only
    refine hK.out _ _ (((Only.refl [mb] W0).alloc _).drew) (fun hHeld => ?_)
    clear hK K
    try simp only [Act.put, List.setIfInBounds_toArray, List.set_cons_zero, List.set_cons_succ]
    refine wpAnyH_ready (rs := [10]) (by kernel_rfl) (by simp) ?_
    refine AllReadyH.cons (o := ⟨some 54, _, _, _, _, _⟩) rfl (fun K hK => ?_) (AllReadyH.nil)
    rw [if_pos (by rfl)]
    have z := LK.out _ ((OW.out.alloc (.cells #[.int .i64 v] 2)).drew)
    go_simp
    try dsimp only
    refine hK.out _ _ (hHeld) (fun hHeld => ?_)
    clear hK K
    try simp only [Act.put, List.setIfInBounds_toArray, List.set_cons_zero, List.set_cons_succ]
    refine wpAnyH_ready (rs := [11]) (by kernel_rfl) (by simp) ?_
    refine AllReadyH.cons (o := ⟨some 55, _, _, _, _, _⟩) rfl (fun K hK => ?_) (AllReadyH.nil)
    rw [if_pos (by rfl)]
    go_simp
    (with_reducible refine (clip_any A m c hcl _).mono ?_); rintro e w' ⟨rfl, hw⟩; obtain rfl := hw.symm; clear hw
    try dsimp only
    refine hK.out _ _ (hHeld) (fun hHeld => ?_)
    clear hK K
    try simp only [Act.put, List.setIfInBounds_toArray, List.set_cons_zero, List.set_cons_succ]
    refine wpAnyH_ready (rs := [14]) (by kernel_rfl) (by simp) ?_
    refine AllReadyH.cons (o := ⟨some 58, _, _, _, _, _⟩) rfl (fun K hK => ?_) (AllReadyH.nil)
    rw [if_pos (by rfl)]
    go_simp
    try dsimp only
    refine hK.out _ _ (OS2.out) (fun hHeld => ?_)
    clear hK K
    try simp only [Act.put, List.setIfInBounds_toArray, List.set_cons_zero, List.set_cons_succ]
    refine wpAnyH_ready (rs := [15]) (by kernel_rfl) (by simp) ?_
    refine AllReadyH.cons (o := ⟨none, _, _, _, _, _⟩) rfl (fun K hK => ?_) (AllReadyH.nil)
    rw [if_pos (by rfl)]
    go_simp
    try dsimp only
    refine hK.out _ _ (OS3.out) (fun hHeld => ?_)
    clear hK K
    try simp only [Act.put, List.setIfInBounds_toArray, List.set_cons_zero, List.set_cons_succ]
    refine wpAnyH_done (by kernel_rfl) ?_ _
    go_wp2_with fail
    refine wp_region_held_drew (S := (fun _ => True)) (by kernel_rfl) (trivial) (fun hHeld => ?_)
    refine wpAnyH_take (i := 0) (oi := ⟨some 66, _, _, _, _, _⟩) (v := ?vb3_1) rfl (by kernel_rfl) (by kernel_rfl) (by kernel_rfl) (fun _ _ _ h => h) (Or.inl ⟨by rfl, ?hyb3_1⟩) (by assumption) ?restb3_1
    case hyb3_1 => (intro V hSw; (try dsimp only at hSw); go_simp; first | done | (with_reducible rfl))
    try simp only [Act.put, List.setIfInBounds_toArray, List.set_cons_zero, List.set_cons_succ]
    refine wpAnyH_take (i := 1) (oi := ⟨some 67, _, _, _, _, _⟩) (v := ?vb3_2) rfl (by kernel_rfl) (by kernel_rfl) (by kernel_rfl) (fun _ _ _ h => h) (Or.inl ⟨by rfl, ?hyb3_2⟩) (by assumption) ?restb3_2
    case hyb3_2 => (intro V hSw; (try dsimp only at hSw); go_simp; first | done | (with_reducible rfl))
    try simp only [Act.put, List.setIfInBounds_toArray, List.set_cons_zero, List.set_cons_succ]
    refine wpAnyH_take (i := 2) (oi := ⟨some 68, _, _, _, _, _⟩) (v := ?vb3_3) rfl (by kernel_rfl) (by kernel_rfl) (by kernel_rfl) (fun _ _ _ h => h) (Or.inl ⟨by rfl, ?hyb3_3⟩) (by assumption) ?restb3_3
    case hyb3_3 => (intro V hSw; (try dsimp only at hSw); go_simp; first | done | (with_reducible rfl))
    try simp only [Act.put, List.setIfInBounds_toArray, List.set_cons_zero, List.set_cons_succ]
    refine wpAnyH_take (i := 3) (oi := ⟨some 69, _, _, _, _, _⟩) (v := ?vb3_4) rfl (by kernel_rfl) (by kernel_rfl) (by kernel_rfl) (fun _ _ _ h => h) (Or.inl ⟨by rfl, ?hyb3_4⟩) (by assumption) ?restb3_4
    case hyb3_4 => (intro V hSw; (try dsimp only at hSw); go_simp; first | done | (with_reducible rfl))
    try simp only [Act.put, List.setIfInBounds_toArray, List.set_cons_zero, List.set_cons_succ]
    refine wpAnyH_take (i := 4) (oi := ⟨some 70, _, _, _, _, _⟩) (v := ?vb3_5) rfl (by kernel_rfl) (by kernel_rfl) (by kernel_rfl) (fun _ _ _ h => h) (Or.inl ⟨by rfl, ?hyb3_5⟩) (by assumption) ?restb3_5
    case hyb3_5 => (intro V hSw; (try dsimp only at hSw); go_simp; first | done | (with_reducible rfl))
    try simp only [Act.put, List.setIfInBounds_toArray, List.set_cons_zero, List.set_cons_succ]
    refine wpAnyH_take (i := 6) (oi := ⟨some 72, _, _, _, _, _⟩) (v := ?vb3_6) rfl (by kernel_rfl) (by kernel_rfl) (by kernel_rfl) (fun _ _ _ h => h) (Or.inl ⟨by rfl, ?hyb3_6⟩) (by assumption) ?restb3_6
    case hyb3_6 => (intro V hSw; (try dsimp only at hSw); go_simp; first | done | (with_reducible rfl))
    try simp only [Act.put, List.setIfInBounds_toArray, List.set_cons_zero, List.set_cons_succ]
    refine wpAnyH_take (i := 7) (oi := ⟨some 73, _, _, _, _, _⟩) (v := ?vb3_7) rfl (by kernel_rfl) (by kernel_rfl) (by kernel_rfl) (fun _ _ _ h => h) (Or.inl ⟨by rfl, ?hyb3_7⟩) (by assumption) ?restb3_7
    case hyb3_7 => (intro V hSw; (try dsimp only at hSw); go_simp; first | done | (with_reducible rfl))
    try simp only [Act.put, List.setIfInBounds_toArray, List.set_cons_zero, List.set_cons_succ]
    refine wpAnyH_take (i := 9) (oi := ⟨some 75, _, _, _, _, _⟩) (v := ?vb3_8) rfl (by kernel_rfl) (by kernel_rfl) (by kernel_rfl) (fun _ _ _ h => h) (Or.inl ⟨by rfl, ?hyb3_8⟩) (by assumption) ?restb3_8
    case hyb3_8 => (intro V hSw; (try dsimp only at hSw); go_simp; first | done | (with_reducible rfl))
    try simp only [Act.put, List.setIfInBounds_toArray, List.set_cons_zero, List.set_cons_succ]
    refine wpAnyH_take (i := 10) (oi := ⟨some 76, _, _, _, _, _⟩) (v := ?vb3_9) rfl (by kernel_rfl) (by kernel_rfl) (by kernel_rfl) (fun _ _ _ h => h) (Or.inl ⟨by rfl, ?hyb3_9⟩) (by assumption) ?restb3_9
    case hyb3_9 => (intro V hSw; (try dsimp only at hSw); go_simp; first | done | (with_reducible rfl))
    try simp only [Act.put, List.setIfInBounds_toArray, List.set_cons_zero, List.set_cons_succ]
    refine wpAnyH_ready (rs := [5]) (by kernel_rfl) (by simp) ?_
    refine AllReadyH.cons (o := ⟨some 71, _, _, _, _, _⟩) rfl (fun K hK => ?_) (AllReadyH.nil)
    rw [if_pos (by rfl)]
    go_simp
    try dsimp only
    refine hK.out _ _ (trivial) (fun hHeld => ?_)
    clear hK K
    try simp only [Act.put, List.setIfInBounds_toArray, List.set_cons_zero, List.set_cons_succ]
    refine wpAnyH_take (i := 8) (oi := ⟨some 74, _, _, _, _, _⟩) (v := ?vb3_10) rfl (by kernel_rfl) (by kernel_rfl) (by kernel_rfl) (fun _ _ _ h => h) (Or.inl ⟨by rfl, ?hyb3_10⟩) (by assumption) ?restb3_10
    case hyb3_10 => (intro V hSw; (try dsimp only at hSw); go_simp; first | done | (with_reducible rfl))
    try simp only [Act.put, List.setIfInBounds_toArray, List.set_cons_zero, List.set_cons_succ]
    refine wpAnyH_take (i := 11) (oi := ⟨some 77, _, _, _, _, _⟩) (v := ?vb3_11) rfl (by kernel_rfl) (by kernel_rfl) (by kernel_rfl) (fun _ _ _ h => h) (Or.inl ⟨by rfl, ?hyb3_11⟩) (by assumption) ?restb3_11
    case hyb3_11 => (intro V hSw; (try dsimp only at hSw); go_simp; first | done | (with_reducible rfl))
    try simp only [Act.put, List.setIfInBounds_toArray, List.set_cons_zero, List.set_cons_succ]
    refine wpAnyH_ready (rs := [12]) (by kernel_rfl) (by simp) ?_
    refine AllReadyH.cons (o := ⟨none, _, _, _, _, _⟩) rfl (fun K hK => ?_) (AllReadyH.nil)
    rw [if_pos (by rfl)]
    go_simp
    try dsimp only
    refine hK.out _ _ (trivial) (fun hHeld => ?_)
    clear hK K
    try simp only [Act.put, List.setIfInBounds_toArray, List.set_cons_zero, List.set_cons_succ]
    refine wpAnyH_done (by kernel_rfl) ?_ _
    go_wp2_with fail
    go_ret
    exact ⟨rfl, ⟨_, FIN.out.only0 (Only.refl [] _).drew, FB.out⟩, FO.out⟩

end Go.Proofs.Ytnmlcijkggfhmaa
