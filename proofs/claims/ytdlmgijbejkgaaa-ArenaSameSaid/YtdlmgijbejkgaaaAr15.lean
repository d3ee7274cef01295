/- ArenaSame: the walk. -/
import Derived.Test.YtdlmgijbejkgaaaAr13
namespace Go.Proofs.Ytdlmgijbejkgaaa
open Go.RowKit
set_option linter.unusedVariables false
set_option linter.all false
set_option maxRecDepth 100000

def newO (sz : Int) : Option (List UInt8) := if 256 ≤ sz ∧ sz ≤ 65536 ∧ sz % 8 = 0 then some (List.replicate sz.toNat 0) else none
def HA (w : World) (lo hi : Nat) (x : Option Addr) (o : Option (List UInt8)) : Prop :=
  (x = none ∧ o = none) ∨ ∃ (g gb cap : Nat) (bs : List UInt8), x = some ⟨g, 0, none⟩ ∧ o = some bs ∧ Ar w g gb cap bs 0 ∧ 256 ≤ bs.length ∧ lo ≤ g ∧ lo ≤ gb ∧ g < hi ∧ gb < hi
def HR (w : World) (lo hi : Nat) (x : Option Addr) (o : Option (List UInt8)) : Prop :=
  (x = none ∧ o = none) ∨ ∃ (g gb cap : Nat) (bs : List UInt8), x = some ⟨g, 0, none⟩ ∧ o = some bs ∧ RAr w g gb cap bs 0 ∧ 256 ≤ bs.length ∧ lo ≤ g ∧ lo ≤ gb ∧ g < hi ∧ gb < hi
theorem HA.only0 {w w' : World} {lo hi : Nat} {x : Option Addr} {o : Option (List UInt8)} (h : HA w lo hi x o) (ho : Only [] w w') : HA w' lo hi x o := by
  rcases h with h | ⟨g, gb, cap, bs, rfl, rfl, hA, r⟩
  · exact .inl h
  · exact .inr ⟨g, gb, cap, bs, rfl, rfl, hA.only ho (by simp) (by simp), r⟩
theorem HR.only0 {w w' : World} {lo hi : Nat} {x : Option Addr} {o : Option (List UInt8)} (h : HR w lo hi x o) (ho : Only [] w w') : HR w' lo hi x o := by
  rcases h with h | ⟨g, gb, cap, bs, rfl, rfl, hA, r⟩
  · exact .inl h
  · exact .inr ⟨g, gb, cap, bs, rfl, rfl, hA.only ho (by simp) (by simp), r⟩
def NewA (w : World) (sz : Int) (e : Ending) (w' : World) : Prop := Only [] w w' ∧ ∃ (x : Option Addr) (er : Int), e = .returned (.tuple #[.pointer x, .int .i64 er]) ∧ HA w' w.heap.size w'.heap.size x (newO sz)
def NewR (w : World) (sz : Int) (e : Ending) (w' : World) : Prop := Only [] w w' ∧ ∃ (x : Option Addr), e = .returned (.pointer x) ∧ HR w' w.heap.size w'.heap.size x (newO sz)
theorem new_any (sz : Int) (w : World) (h0 : -9223372036854775808 ≤ sz) (h1 : sz ≤ 9223372036854775807) : Calls Try.prog 8 #[.int .i64 sz] w (NewA w sz) := by
  by_cases h : 256 ≤ sz ∧ sz ≤ 65536 ∧ sz % 8 = 0
  · obtain ⟨m, rfl⟩ : ∃ m : Nat, sz = m := ⟨sz.toNat, by omega⟩
    refine (new_good m w (by omega) (by omega) (by omega)).mono ?_
    rintro e w' ⟨rfl, o, hA⟩
    exact ⟨o, _, _, rfl, .inr ⟨_, _, _, _, rfl, by unfold newO; rw [if_pos h]; rfl, hA, by simp; omega, by omega, by omega, hA.hdr.lt, hA.lt⟩⟩
  · refine (new_bad sz w (by omega) h0 h1).mono ?_
    rintro e w' ⟨rfl, rfl⟩
    exact ⟨Only.refl _ _, _, _, rfl, .inl ⟨rfl, by unfold newO; rw [if_neg h]⟩⟩
theorem rnew_any (sz : Int) (w : World) (h0 : -9223372036854775808 ≤ sz) (h1 : sz ≤ 9223372036854775807) : Calls Try.prog 10 #[.int .i64 sz] w (NewR w sz) := by
  by_cases h : 256 ≤ sz ∧ sz ≤ 65536 ∧ sz % 8 = 0
  · obtain ⟨m, rfl⟩ : ∃ m : Nat, sz = m := ⟨sz.toNat, by omega⟩
    refine (rnew_good m w (by omega) (by omega) (by omega)).mono ?_
    rintro e w' ⟨rfl, o, hA⟩
    exact ⟨o, _, rfl, .inr ⟨_, _, _, _, rfl, by unfold newO; rw [if_pos h]; rfl, hA, by simp; omega, by omega, by omega, hA.hdr.lt, hA.lt⟩⟩
  · refine (rnew_bad sz w (by omega) h0 h1).mono ?_
    rintro e w' ⟨rfl, rfl⟩
    exact ⟨Only.refl _ _, _, rfl, .inl ⟨rfl, by unfold newO; rw [if_neg h]⟩⟩

/-- Both there, or none. -/
def Two (w : World) (B : Nat) (x p : Option Addr) (o : Option (List UInt8)) (L : List Nat) (k : Int) : Prop :=
  (x = none ∧ p = none ∧ o = none ∧ L = []) ∨ ∃ (g gb cap rg rgb rcap : Nat) (bs : List UInt8) (c : Int), x = some ⟨g, 0, none⟩ ∧ p = some ⟨rg, 0, none⟩ ∧ o = some bs ∧ L = [g, gb, rg, rgb] ∧ Pr w B g gb cap rg rgb rcap bs c ∧ c ≤ k
theorem Two.only {w w' : World} {B : Nat} {x p : Option Addr} {o : Option (List UInt8)} {L S : List Nat} {k : Int} (h : Two w B x p o L k) (ho : Only S w w') (hd : ∀ b ∈ L, b ∉ S) : Two w' B x p o L k := by
  rcases h with h | ⟨g, gb, cap, rg, rgb, rcap, bs, c, rfl, rfl, rfl, rfl, hP, r⟩
  · exact .inl h
  · exact .inr ⟨g, gb, cap, rg, rgb, rcap, bs, c, rfl, rfl, rfl, rfl, hP.only ho (hd _ (by simp)) (hd _ (by simp)) (hd _ (by simp)) (hd _ (by simp)), r⟩
theorem Two.only0 {w w' : World} {B : Nat} {x p : Option Addr} {o : Option (List UInt8)} {L : List Nat} {k : Int} (h : Two w B x p o L k) (ho : Only [] w w') : Two w' B x p o L k := h.only ho (by simp)
theorem Two.lt {w : World} {B : Nat} {x p : Option Addr} {o : Option (List UInt8)} {L : List Nat} {k : Int} (h : Two w B x p o L k) : ∀ b ∈ L, b < w.heap.size ∧ B ≤ b := by
  rcases h with ⟨_, _, _, rfl⟩ | ⟨g, gb, cap, rg, rgb, rcap, bs, c, rfl, rfl, rfl, rfl, hP, r⟩
  · simp
  · have h1 := hP.a.hdr.lt
    have h2 := hP.a.lt
    have h3 := hP.r.hdr.lt
    have h4 := hP.r.lt
    have := hP.g1
    have := hP.g2
    have := hP.g3
    have := hP.g4
    intro b hb
    simp at hb
    omega
theorem two_new {w : World} {B lo hi lo' hi' : Nat} {x p : Option Addr} {o : Option (List UInt8)} (hA : HA w lo hi x o) (hR : HR w lo' hi' p o) (h : hi ≤ lo') (hB : B ≤ lo) (hB' : B ≤ lo') : ∃ L, Two w B x p o L 0 ∧ ∀ b ∈ L, (lo ≤ b ∧ b < hi) ∨ (lo' ≤ b ∧ b < hi') := by
  rcases hA with ⟨rfl, rfl⟩ | ⟨g, gb, cap, bs, rfl, rfl, hA, l0, a1, a2, a3, a4⟩
  · rcases hR with ⟨rfl, _⟩ | ⟨rg, rgb, rcap, bs', rfl, ho, _⟩
    · exact ⟨[], .inl ⟨rfl, rfl, rfl, rfl⟩, by simp⟩
    · cases ho
  · rcases hR with ⟨rfl, ho⟩ | ⟨rg, rgb, rcap, bs', rfl, ho, hR, _, b1, b2, b3, b4⟩
    · cases ho
    · obtain rfl : bs = bs' := by simpa using ho
      exact ⟨_, .inr ⟨g, gb, cap, rg, rgb, rcap, bs, 0, rfl, rfl, rfl, rfl, ⟨hA, hR, by omega, by omega, by omega, by omega, by omega, by omega, by omega, by omega, by omega, l0⟩, by omega⟩, by
        intro b hb
        simp at hb
        omega⟩
theorem same_two {w : World} {B : Nat} {x p y q : Option Addr} {o o' : Option (List UInt8)} {L L' : List Nat} {k k' : Int} (hx : Two w B x p o L k) (hy : Two w B y q o' L' k') :
    Calls Try.prog 17 #[.pointer x, .pointer y] w fun e w' => e = .returned (.bool (o == o')) ∧ ∃ k, w.drewN k = w' := by
  rcases hx with ⟨rfl, rfl, rfl, rfl⟩ | ⟨g, gb, cap, rg, rgb, rcap, bs, c, rfl, rfl, rfl, rfl, hP, r⟩
  · rcases hy with ⟨rfl, rfl, rfl, rfl⟩ | ⟨g', gb', cap', rg', rgb', rcap', bs', c', rfl, rfl, rfl, rfl, hP', r'⟩
    · exact (same_gone none none w (.inl rfl) (.inl rfl)).mono fun _ _ ⟨he, hw⟩ => ⟨he, 0, hw⟩
    · exact (same_left none g' gb' bs'.length cap' w (.inl rfl) (by simpa using hP'.a.hdr.cell 0) hP'.a.pos).mono fun _ _ ⟨he, hw⟩ => ⟨he, 0, hw⟩
  · rcases hy with ⟨rfl, rfl, rfl, rfl⟩ | ⟨g', gb', cap', rg', rgb', rcap', bs', c', rfl, rfl, rfl, rfl, hP', r'⟩
    · exact (same_right none g gb bs.length cap w (.inl rfl) (by simpa using hP.a.hdr.cell 0) hP.a.pos).mono fun _ _ ⟨he, hw⟩ => ⟨he, 0, hw⟩
    · exact same_any _ _ _ _ _ _ bs bs' _ _ w hP.a hP'.a
theorem rsame_two {w : World} {B : Nat} {x p y q : Option Addr} {o o' : Option (List UInt8)} {L L' : List Nat} {k k' : Int} (hx : Two w B x p o L k) (hy : Two w B y q o' L' k') :
    Calls Try.prog 18 #[.pointer p, .pointer q] w fun e w' => e = .returned (.bool (o == o')) ∧ ∃ k, w.drewN k = w' := by
  rcases hx with ⟨rfl, rfl, rfl, rfl⟩ | ⟨g, gb, cap, rg, rgb, rcap, bs, c, rfl, rfl, rfl, rfl, hP, r⟩
  · rcases hy with ⟨rfl, rfl, rfl, rfl⟩ | ⟨g', gb', cap', rg', rgb', rcap', bs', c', rfl, rfl, rfl, rfl, hP', r'⟩
    · exact (rsame_nil none none w (.inl rfl)).mono fun _ _ ⟨he, hw⟩ => ⟨he, 0, hw⟩
    · exact (rsame_nil none _ w (.inl rfl)).mono fun _ _ ⟨he, hw⟩ => ⟨he, 0, hw⟩
  · rcases hy with ⟨rfl, rfl, rfl, rfl⟩ | ⟨g', gb', cap', rg', rgb', rcap', bs', c', rfl, rfl, rfl, rfl, hP', r'⟩
    · exact (rsame_nil _ none w (.inr rfl)).mono fun _ _ ⟨he, hw⟩ => ⟨he, 0, hw⟩
    · exact rsame_any _ _ _ _ _ _ bs bs' _ _ w hP.r hP'.r


set_option maxHeartbeats 8000000 in
theorem same_walk (s1 s2 : Int) (A1 A2 : Option Addr) (n1 n2 c1 c2 : Nat) (w : World) (h1 : -9223372036854775808 ≤ s1) (h1' : s1 ≤ 9223372036854775807) (h2 : -9223372036854775808 ≤ s2) (h2' : s2 ≤ 9223372036854775807)
    (hA1 : Script w.heap.size w A1 n1) (hA2 : Script w.heap.size w A2 n2) :
    Calls Try.prog 4 #[.agg #[.int .i64 s1, .int .i64 s2], .slice A1 n1 c1, .slice A2 n2 c2] w fun e w' => e = .returned (.bool true) ∧ Only [] w w' := by
  have HA1 := hide hA1
  have HA2 := hide hA2
  clear hA1 hA2
  have hb := Blk.new w 22 #[.int .i64 s1, .int .i64 s2]
  have o0 := (Only.refl [] w).alloc (.cells #[.int .i64 s1, .int .i64 s2] 22)
  go_enter Try.func4, Try.ntmps4
  go_wp2_with fail
  refine (much_any A1 n1 c1 _ _ (HA1.out.only o0 (by simp))).mono ?_
  rintro e wm1 ⟨⟨m1, rfl⟩, om1⟩
  have hb1 := hb.only om1 (by simp)
  have o1 := o0.trans0 om1
  cases m1 with
  | true =>
    go_wp2_with (go_at_call 7; refine (known_any _).mono ?_; rintro e wa ⟨rfl, oa⟩)
    go_ret
    exact ⟨rfl, o1.trans0 oa⟩
  | false =>
    go_wp2_with fail
    refine (much_any A2 n2 c2 _ _ (HA2.out.only o1 (by simp))).mono ?_
    rintro e wm2 ⟨⟨m2, rfl⟩, om2⟩
    have hb2 := hb1.only om2 (by simp)
    have o2 := o1.trans0 om2
    clear hb hb1 o0 o1 om1 om2
    cases m2 with
    | true =>
      go_wp2_with (go_at_call 7; refine (known_any _).mono ?_; rintro e wa ⟨rfl, oa⟩)
      go_ret
      exact ⟨rfl, o2.trans0 oa⟩
    | false =>
      have q0 : wm2.cell? ⟨w.heap.size, 0, none⟩ = some (.int .i64 s1) := by simpa using hb2.cell 0
      go_wp2_with fail
      refine (new_any s1 _ h1 h1').mono ?_
      rintro e wx ⟨ox, x1, er1, rfl, hx⟩
      have hbx := hb2.only ox (by simp)
      have o3 := o2.trans0 ox
      have q1 : wx.cell? ⟨w.heap.size, 1, none⟩ = some (.int .i64 s2) := by simpa using hbx.cell 1
      clear q0
      go_wp2_with fail
      refine (new_any s2 _ h2 h2').mono ?_
      rintro e wy ⟨oy, x2, er2, rfl, hy⟩
      have hby := hbx.only oy (by simp)
      have o4 := o3.trans0 oy
      have q0 : wy.cell? ⟨w.heap.size, 0, none⟩ = some (.int .i64 s1) := by simpa using hby.cell 0
      have q1 : wy.cell? ⟨w.heap.size, 1, none⟩ = some (.int .i64 s2) := by simpa using hby.cell 1
      have hx4 := hx.only0 oy
      have hsx := o2.size
      have hsy := oy.size
      have hxx := ox.size
      clear hb2 hbx hx
      have mk1 : True := trivial
      go_wp2_with fail
      go_region_held3 (fun W => W.cell? ⟨w.heap.size, 0, none⟩ = some (.int .i64 s1) ∧ W.cell? ⟨w.heap.size, 1, none⟩ = some (.int .i64 s2)) (first | go_keep | exact ⟨q0, q1⟩) (first
        | (go_at_call 10; refine (rnew_any _ _ (by assumption) (by assumption)).mono ?_; first
          | (clear mk1; rintro e wp ⟨op, p1, rfl, hp⟩; have op' := (Only.refl [] wy).drew.trans0 op; have hbp := hby.only op' (by simp); have q0 : wp.cell? ⟨w.heap.size, 0, none⟩ = some (.int .i64 s1) := (by simpa using hbp.cell 0); have q1 : wp.cell? ⟨w.heap.size, 1, none⟩ = some (.int .i64 s2) := (by simpa using hbp.cell 1))
          | (rintro e wq ⟨oq, p2, rfl, hq⟩; have hbq := hbp.only oq (by simp); have q0 : wq.cell? ⟨w.heap.size, 0, none⟩ = some (.int .i64 s1) := (by simpa using hbq.cell 0); have q1 : wq.cell? ⟨w.heap.size, 1, none⟩ = some (.int .i64 s2) := (by simpa using hbq.cell 1))))
      have hO := (o4.trans0 op').trans0 oq
      have hx6 := (hx4.only0 op').only0 oq
      have hy6 := (hy.only0 op').only0 oq
      have hp6 := hp.only0 oq
      have e1 : wy.drew.heap.size = wy.heap.size := rfl
      rw [e1] at hp6
      have hsp := op'.size
      have hsq := oq.size
      obtain ⟨L1, hT1, r1⟩ := two_new hx6 hp6 (by omega) (B := w.heap.size) (by omega) (by omega)
      obtain ⟨L2, hT2, r2⟩ := two_new hy6 hq (by omega) (B := w.heap.size) (by omega) (by omega)
      have hdis : ∀ b ∈ L1, b ∉ L2 := fun b hb hm => by
        have a1 := r1 b hb
        have a2 := r2 b hm
        omega
      clear hx6 hy6 hp6 hq hp hx4 hy r1 r2 hby hbp hbq o2 o3 o4 op' oq op ox oy q0 q1 hsx hsy hxx hsp hsq e1 h1 h1' h2 h2'
      generalize newO s2 = o2 at hT2
      go_wp2_with fail

      go_loopw [7, 11, 13, 14] (fun vx vp vok i wr => ∃ (k : Nat) (x1 p1 : Option Addr) (o1 : Option (List UInt8)) (L1 : List Nat), vx = .pointer x1 ∧ vp = .pointer p1 ∧ vok = .bool true ∧ i = .int .i64 k ∧ k ≤ n1 ∧ k ≤ 60 ∧ Only [] w wr ∧ Two wr w.heap.size x1 p1 o1 L1 k ∧ Two wr w.heap.size x2 p2 o2 L2 0 ∧ ∀ b ∈ L1, b ∉ L2) (fun _ _ _ i _ => 60 - (intOf i).toNat)
      case atStart => exact ⟨0, _, _, _, _, rfl, rfl, rfl, rfl, by omega, by omega, hO, hT1, hT2, hdis⟩
      case round =>
        clear hO hT1 hT2 hdis
        obtain ⟨k1, x1, p1, o1, L1, rfl, rfl, rfl, rfl, hkn1, hk601, hO, hT1, hT2, hdis⟩ := hrel
        by_cases hlt1 : k1 < n1
        · have i1 : (k1 : Int) < (n1 : Int) := by omega
          have i0 : (0 : Int) ≤ (k1 : Int) := by omega
          by_cases h601 : k1 < 60
          · have i2 : (k1 : Int) < 60 := by omega
            have hT' := hide hT1
            rcases hT1 with ⟨rfl, rfl, rfl, rfl⟩ | ⟨g, gb, cap, rg, rgb, rcap, bs, c, rfl, rfl, rfl, rfl, hP, hc⟩
            · have hT1 := hT'.out
              clear hT'
              have hT1' := hT1
              generalize hkk : (k1 : Int) = kk at hT1
              clear hT1'
              go_wp2_with fail

              go_loopw [9, 12, 13, 15] (fun vx vp vok i wr => ∃ (k : Nat) (x2 p2 : Option Addr) (o2 : Option (List UInt8)) (L2 : List Nat), vx = .pointer x2 ∧ vp = .pointer p2 ∧ vok = .bool true ∧ i = .int .i64 k ∧ k ≤ n2 ∧ k ≤ 60 ∧ Only [] w wr ∧ Two wr w.heap.size x2 p2 o2 L2 k ∧ Two wr w.heap.size none none (none : Option (List UInt8)) ([] : List Nat) kk ∧ ∀ b ∈ ([] : List Nat), b ∉ L2) (fun _ _ _ i _ => 60 - (intOf i).toNat)
              case atStart => exact ⟨0, _, _, _, _, rfl, rfl, rfl, rfl, by omega, by omega, hO, hT2, hT1, hdis⟩
              case round =>
                clear hO hT2 hT1 hdis
                obtain ⟨k2, x2, p2, o2, L2, rfl, rfl, rfl, rfl, hkn2, hk602, hO, hT2, hT1, hdis⟩ := hrel
                by_cases hlt2 : k2 < n2
                · have i1 : (k2 : Int) < (n2 : Int) := by omega
                  have i0 : (0 : Int) ≤ (k2 : Int) := by omega
                  by_cases h602 : k2 < 60
                  · have i2 : (k2 : Int) < 60 := by omega
                    have hT' := hide hT2
                    rcases hT2 with ⟨rfl, rfl, rfl, rfl⟩ | ⟨g, gb, cap, rg, rgb, rcap, bs, c, rfl, rfl, rfl, rfl, hP, hc⟩
                    · have hT2 := hT'.out
                      clear hT'
                      go_wp2_with fail
                      refine (same_two hT1 hT2).mono ?_
                      rintro e wa ⟨rfl, ka, rfl⟩
                      replace hT1 := hT1.only0 ((Only.refl [] _).drewN ka)
                      replace hT2 := hT2.only0 ((Only.refl [] _).drewN ka)
                      replace hO := hO.drewN ka
                      generalize wr.drewN ka = wa at hT1 hT2 hO ⊢
                      go_wp2_with fail
                      refine (rsame_two hT1 hT2).mono ?_
                      rintro e wb ⟨rfl, kb, rfl⟩
                      replace hT1 := hT1.only0 ((Only.refl [] _).drewN kb)
                      replace hO := hO.drewN kb
                      clear hT2
                      generalize wa.drewN kb = wb at hT1 hO ⊢
                      have hself := same_two hT1 hT1
                      rw [show ((none : Option (List UInt8)) == (none : Option (List UInt8))) = true from by simp] at hself
                      have hee : (((none : Option (List UInt8)) == (none : Option (List UInt8))) == ((none : Option (List UInt8)) == (none : Option (List UInt8)))) = true := by simp
                      clear hT1
                      go_wp2_with (first
                        | (go_at_call 17; refine hself.mono ?_; rintro e wc ⟨rfl, kc, rfl⟩)
                        | (go_at_call 7; refine (known_any _).mono ?_; rintro e wd ⟨rfl, od⟩))
                      go_ret
                      exact ⟨rfl, (hO.drewN kc).trans0 od⟩
                    · clear hT'
                      obtain ⟨a, s, rfl, hlo, hok, c0, c1, c2, c3, c4⟩ := (HA2.out.only hO (by simp)) k2 hlt2
                      have hd := hide (do_any s hok hP (by omega))
                      go_wp2_with fail
                      refine hd.out.mono ?_
                      clear hd
                      rintro e w5 ⟨o5, g', gb', cap', rcap', bs', c', rfl, hP', hc', e1, e2⟩
                      have hO5 : Only [] w w5 := hO.trans o5 (fun x hx => .inr (by
                        have := hP.g1
                        have := hP.g2
                        have := hP.g3
                        have := hP.g4
                        simp at hx
                        omega))
                      have hO2 := hT1.only o5 (fun b hb hm => hdis b hb hm)
                      have hdis' : ∀ b ∈ ([] : List Nat), b ∉ [g', gb', rg, rgb] := by
                        intro b hm hb
                        have hb2 := (hT1.lt b hm).1
                        simp at hb
                        rcases hb with rfl | rfl | rfl | rfl
                        · rcases e1 with rfl | e1
                          · exact hdis _ hm (by simp)
                          · omega
                        · rcases e2 with rfl | e2
                          · exact hdis _ hm (by simp)
                          · omega
                        · exact hdis _ hm (by simp)
                        · exact hdis _ hm (by simp)

                      go_wp2_with fail
                      go_roundw
                      case rel => exact ⟨k2 + 1, _, _, _, _, rfl, rfl, rfl, by go_num, by omega, by omega, hO5, .inr ⟨_, _, _, _, _, _, _, _, rfl, rfl, rfl, rfl, hP', by omega⟩, hO2, hdis'⟩
                      case measure => simp [intOf]; omega
                  · have d2 : decide ((k2 : Int) < 60) = false := by simp; omega
                    go_wp2_with fail
                    refine (same_two hT1 hT2).mono ?_
                    rintro e wa ⟨rfl, ka, rfl⟩
                    replace hT1 := hT1.only0 ((Only.refl [] _).drewN ka)
                    replace hT2 := hT2.only0 ((Only.refl [] _).drewN ka)
                    replace hO := hO.drewN ka
                    generalize wr.drewN ka = wa at hT1 hT2 hO ⊢
                    go_wp2_with fail
                    refine (rsame_two hT1 hT2).mono ?_
                    rintro e wb ⟨rfl, kb, rfl⟩
                    replace hT1 := hT1.only0 ((Only.refl [] _).drewN kb)
                    replace hO := hO.drewN kb
                    clear hT2
                    generalize wa.drewN kb = wb at hT1 hO ⊢
                    have hself := same_two hT1 hT1
                    rw [show ((none : Option (List UInt8)) == (none : Option (List UInt8))) = true from by simp] at hself
                    have hee : (((none : Option (List UInt8)) == o2) == ((none : Option (List UInt8)) == o2)) = true := by simp
                    clear hT1
                    go_wp2_with (first
                      | (go_at_call 17; refine hself.mono ?_; rintro e wc ⟨rfl, kc, rfl⟩)
                      | (go_at_call 7; refine (known_any _).mono ?_; rintro e wd ⟨rfl, od⟩))
                    go_ret
                    exact ⟨rfl, (hO.drewN kc).trans0 od⟩
                · have d1 : decide ((k2 : Int) < (n2 : Int)) = false := by simp; omega
                  go_wp2_with fail
                  refine (same_two hT1 hT2).mono ?_
                  rintro e wa ⟨rfl, ka, rfl⟩
                  replace hT1 := hT1.only0 ((Only.refl [] _).drewN ka)
                  replace hT2 := hT2.only0 ((Only.refl [] _).drewN ka)
                  replace hO := hO.drewN ka
                  generalize wr.drewN ka = wa at hT1 hT2 hO ⊢
                  go_wp2_with fail
                  refine (rsame_two hT1 hT2).mono ?_
                  rintro e wb ⟨rfl, kb, rfl⟩
                  replace hT1 := hT1.only0 ((Only.refl [] _).drewN kb)
                  replace hO := hO.drewN kb
                  clear hT2
                  generalize wa.drewN kb = wb at hT1 hO ⊢
                  have hself := same_two hT1 hT1
                  rw [show ((none : Option (List UInt8)) == (none : Option (List UInt8))) = true from by simp] at hself
                  have hee : (((none : Option (List UInt8)) == o2) == ((none : Option (List UInt8)) == o2)) = true := by simp
                  clear hT1
                  go_wp2_with (first
                    | (go_at_call 17; refine hself.mono ?_; rintro e wc ⟨rfl, kc, rfl⟩)
                    | (go_at_call 7; refine (known_any _).mono ?_; rintro e wd ⟨rfl, od⟩))
                  go_ret
                  exact ⟨rfl, (hO.drewN kc).trans0 od⟩
            · clear hT'
              obtain ⟨a, s, rfl, hlo, hok, c0, c1, c2, c3, c4⟩ := (HA1.out.only hO (by simp)) k1 hlt1
              have hd := hide (do_any s hok hP (by omega))
              go_wp2_with fail
              refine hd.out.mono ?_
              clear hd
              rintro e w5 ⟨o5, g', gb', cap', rcap', bs', c', rfl, hP', hc', e1, e2⟩
              have hO5 : Only [] w w5 := hO.trans o5 (fun x hx => .inr (by
                have := hP.g1
                have := hP.g2
                have := hP.g3
                have := hP.g4
                simp at hx
                omega))
              have hO2 := hT2.only o5 (fun b hb hm => hdis b hm hb)
              have hdis' : ∀ b ∈ [g', gb', rg, rgb], b ∉ L2 := by
                intro b hb hm
                have hb2 := (hT2.lt b hm).1
                simp at hb
                rcases hb with rfl | rfl | rfl | rfl
                · rcases e1 with rfl | e1
                  · exact hdis _ (by simp) hm
                  · omega
                · rcases e2 with rfl | e2
                  · exact hdis _ (by simp) hm
                  · omega
                · exact hdis _ (by simp) hm
                · exact hdis _ (by simp) hm

              go_wp2_with fail
              go_roundw
              case rel => exact ⟨k1 + 1, _, _, _, _, rfl, rfl, rfl, by go_num, by omega, by omega, hO5, .inr ⟨_, _, _, _, _, _, _, _, rfl, rfl, rfl, rfl, hP', by omega⟩, hO2, hdis'⟩
              case measure => simp [intOf]; omega
          · have d2 : decide ((k1 : Int) < 60) = false := by simp; omega
            have hT1' := hT1
            generalize hkk : (k1 : Int) = kk at hT1
            clear hT1'
            go_wp2_with fail

            go_loopw [9, 12, 13, 15] (fun vx vp vok i wr => ∃ (k : Nat) (x2 p2 : Option Addr) (o2 : Option (List UInt8)) (L2 : List Nat), vx = .pointer x2 ∧ vp = .pointer p2 ∧ vok = .bool true ∧ i = .int .i64 k ∧ k ≤ n2 ∧ k ≤ 60 ∧ Only [] w wr ∧ Two wr w.heap.size x2 p2 o2 L2 k ∧ Two wr w.heap.size x1 p1 o1 L1 kk ∧ ∀ b ∈ L1, b ∉ L2) (fun _ _ _ i _ => 60 - (intOf i).toNat)
            case atStart => exact ⟨0, _, _, _, _, rfl, rfl, rfl, rfl, by omega, by omega, hO, hT2, hT1, hdis⟩
            case round =>
              clear hO hT2 hT1 hdis
              obtain ⟨k2, x2, p2, o2, L2, rfl, rfl, rfl, rfl, hkn2, hk602, hO, hT2, hT1, hdis⟩ := hrel
              by_cases hlt2 : k2 < n2
              · have i1 : (k2 : Int) < (n2 : Int) := by omega
                have i0 : (0 : Int) ≤ (k2 : Int) := by omega
                by_cases h602 : k2 < 60
                · have i2 : (k2 : Int) < 60 := by omega
                  have hT' := hide hT2
                  rcases hT2 with ⟨rfl, rfl, rfl, rfl⟩ | ⟨g, gb, cap, rg, rgb, rcap, bs, c, rfl, rfl, rfl, rfl, hP, hc⟩
                  · have hT2 := hT'.out
                    clear hT'
                    go_wp2_with fail
                    refine (same_two hT1 hT2).mono ?_
                    rintro e wa ⟨rfl, ka, rfl⟩
                    replace hT1 := hT1.only0 ((Only.refl [] _).drewN ka)
                    replace hT2 := hT2.only0 ((Only.refl [] _).drewN ka)
                    replace hO := hO.drewN ka
                    generalize wr.drewN ka = wa at hT1 hT2 hO ⊢
                    go_wp2_with fail
                    refine (rsame_two hT1 hT2).mono ?_
                    rintro e wb ⟨rfl, kb, rfl⟩
                    replace hT1 := hT1.only0 ((Only.refl [] _).drewN kb)
                    replace hO := hO.drewN kb
                    clear hT2
                    generalize wa.drewN kb = wb at hT1 hO ⊢
                    have hself := same_two hT1 hT1
                    rw [show (o1 == o1) = true from by simp] at hself
                    have hee : ((o1 == (none : Option (List UInt8))) == (o1 == (none : Option (List UInt8)))) = true := by simp
                    clear hT1
                    go_wp2_with (first
                      | (go_at_call 17; refine hself.mono ?_; rintro e wc ⟨rfl, kc, rfl⟩)
                      | (go_at_call 7; refine (known_any _).mono ?_; rintro e wd ⟨rfl, od⟩))
                    go_ret
                    exact ⟨rfl, (hO.drewN kc).trans0 od⟩
                  · clear hT'
                    obtain ⟨a, s, rfl, hlo, hok, c0, c1, c2, c3, c4⟩ := (HA2.out.only hO (by simp)) k2 hlt2
                    have hd := hide (do_any s hok hP (by omega))
                    go_wp2_with fail
                    refine hd.out.mono ?_
                    clear hd
                    rintro e w5 ⟨o5, g', gb', cap', rcap', bs', c', rfl, hP', hc', e1, e2⟩
                    have hO5 : Only [] w w5 := hO.trans o5 (fun x hx => .inr (by
                      have := hP.g1
                      have := hP.g2
                      have := hP.g3
                      have := hP.g4
                      simp at hx
                      omega))
                    have hO2 := hT1.only o5 (fun b hb hm => hdis b hb hm)
                    have hdis' : ∀ b ∈ L1, b ∉ [g', gb', rg, rgb] := by
                      intro b hm hb
                      have hb2 := (hT1.lt b hm).1
                      simp at hb
                      rcases hb with rfl | rfl | rfl | rfl
                      · rcases e1 with rfl | e1
                        · exact hdis _ hm (by simp)
                        · omega
                      · rcases e2 with rfl | e2
                        · exact hdis _ hm (by simp)
                        · omega
                      · exact hdis _ hm (by simp)
                      · exact hdis _ hm (by simp)

                    go_wp2_with fail
                    go_roundw
                    case rel => exact ⟨k2 + 1, _, _, _, _, rfl, rfl, rfl, by go_num, by omega, by omega, hO5, .inr ⟨_, _, _, _, _, _, _, _, rfl, rfl, rfl, rfl, hP', by omega⟩, hO2, hdis'⟩
                    case measure => simp [intOf]; omega
                · have d2 : decide ((k2 : Int) < 60) = false := by simp; omega
                  go_wp2_with fail
                  refine (same_two hT1 hT2).mono ?_
                  rintro e wa ⟨rfl, ka, rfl⟩
                  replace hT1 := hT1.only0 ((Only.refl [] _).drewN ka)
                  replace hT2 := hT2.only0 ((Only.refl [] _).drewN ka)
                  replace hO := hO.drewN ka
                  generalize wr.drewN ka = wa at hT1 hT2 hO ⊢
                  go_wp2_with fail
                  refine (rsame_two hT1 hT2).mono ?_
                  rintro e wb ⟨rfl, kb, rfl⟩
                  replace hT1 := hT1.only0 ((Only.refl [] _).drewN kb)
                  replace hO := hO.drewN kb
                  clear hT2
                  generalize wa.drewN kb = wb at hT1 hO ⊢
                  have hself := same_two hT1 hT1
                  rw [show (o1 == o1) = true from by simp] at hself
                  have hee : ((o1 == o2) == (o1 == o2)) = true := by simp
                  clear hT1
                  go_wp2_with (first
                    | (go_at_call 17; refine hself.mono ?_; rintro e wc ⟨rfl, kc, rfl⟩)
                    | (go_at_call 7; refine (known_any _).mono ?_; rintro e wd ⟨rfl, od⟩))
                  go_ret
                  exact ⟨rfl, (hO.drewN kc).trans0 od⟩
              · have d1 : decide ((k2 : Int) < (n2 : Int)) = false := by simp; omega
                go_wp2_with fail
                refine (same_two hT1 hT2).mono ?_
                rintro e wa ⟨rfl, ka, rfl⟩
                replace hT1 := hT1.only0 ((Only.refl [] _).drewN ka)
                replace hT2 := hT2.only0 ((Only.refl [] _).drewN ka)
                replace hO := hO.drewN ka
                generalize wr.drewN ka = wa at hT1 hT2 hO ⊢
                go_wp2_with fail
                refine (rsame_two hT1 hT2).mono ?_
                rintro e wb ⟨rfl, kb, rfl⟩
                replace hT1 := hT1.only0 ((Only.refl [] _).drewN kb)
                replace hO := hO.drewN kb
                clear hT2
                generalize wa.drewN kb = wb at hT1 hO ⊢
                have hself := same_two hT1 hT1
                rw [show (o1 == o1) = true from by simp] at hself
                have hee : ((o1 == o2) == (o1 == o2)) = true := by simp
                clear hT1
                go_wp2_with (first
                  | (go_at_call 17; refine hself.mono ?_; rintro e wc ⟨rfl, kc, rfl⟩)
                  | (go_at_call 7; refine (known_any _).mono ?_; rintro e wd ⟨rfl, od⟩))
                go_ret
                exact ⟨rfl, (hO.drewN kc).trans0 od⟩
        · have d1 : decide ((k1 : Int) < (n1 : Int)) = false := by simp; omega
          have hT1' := hT1
          generalize hkk : (k1 : Int) = kk at hT1
          clear hT1'
          go_wp2_with fail

          go_loopw [9, 12, 13, 15] (fun vx vp vok i wr => ∃ (k : Nat) (x2 p2 : Option Addr) (o2 : Option (List UInt8)) (L2 : List Nat), vx = .pointer x2 ∧ vp = .pointer p2 ∧ vok = .bool true ∧ i = .int .i64 k ∧ k ≤ n2 ∧ k ≤ 60 ∧ Only [] w wr ∧ Two wr w.heap.size x2 p2 o2 L2 k ∧ Two wr w.heap.size x1 p1 o1 L1 kk ∧ ∀ b ∈ L1, b ∉ L2) (fun _ _ _ i _ => 60 - (intOf i).toNat)
          case atStart => exact ⟨0, _, _, _, _, rfl, rfl, rfl, rfl, by omega, by omega, hO, hT2, hT1, hdis⟩
          case round =>
            clear hO hT2 hT1 hdis
            obtain ⟨k2, x2, p2, o2, L2, rfl, rfl, rfl, rfl, hkn2, hk602, hO, hT2, hT1, hdis⟩ := hrel
            by_cases hlt2 : k2 < n2
            · have i1 : (k2 : Int) < (n2 : Int) := by omega
              have i0 : (0 : Int) ≤ (k2 : Int) := by omega
              by_cases h602 : k2 < 60
              · have i2 : (k2 : Int) < 60 := by omega
                have hT' := hide hT2
                rcases hT2 with ⟨rfl, rfl, rfl, rfl⟩ | ⟨g, gb, cap, rg, rgb, rcap, bs, c, rfl, rfl, rfl, rfl, hP, hc⟩
                · have hT2 := hT'.out
                  clear hT'
                  go_wp2_with fail
                  refine (same_two hT1 hT2).mono ?_
                  rintro e wa ⟨rfl, ka, rfl⟩
                  replace hT1 := hT1.only0 ((Only.refl [] _).drewN ka)
                  replace hT2 := hT2.only0 ((Only.refl [] _).drewN ka)
                  replace hO := hO.drewN ka
                  generalize wr.drewN ka = wa at hT1 hT2 hO ⊢
                  go_wp2_with fail
                  refine (rsame_two hT1 hT2).mono ?_
                  rintro e wb ⟨rfl, kb, rfl⟩
                  replace hT1 := hT1.only0 ((Only.refl [] _).drewN kb)
                  replace hO := hO.drewN kb
                  clear hT2
                  generalize wa.drewN kb = wb at hT1 hO ⊢
                  have hself := same_two hT1 hT1
                  rw [show (o1 == o1) = true from by simp] at hself
                  have hee : ((o1 == (none : Option (List UInt8))) == (o1 == (none : Option (List UInt8)))) = true := by simp
                  clear hT1
                  go_wp2_with (first
                    | (go_at_call 17; refine hself.mono ?_; rintro e wc ⟨rfl, kc, rfl⟩)
                    | (go_at_call 7; refine (known_any _).mono ?_; rintro e wd ⟨rfl, od⟩))
                  go_ret
                  exact ⟨rfl, (hO.drewN kc).trans0 od⟩
                · clear hT'
                  obtain ⟨a, s, rfl, hlo, hok, c0, c1, c2, c3, c4⟩ := (HA2.out.only hO (by simp)) k2 hlt2
                  have hd := hide (do_any s hok hP (by omega))
                  go_wp2_with fail
                  refine hd.out.mono ?_
                  clear hd
                  rintro e w5 ⟨o5, g', gb', cap', rcap', bs', c', rfl, hP', hc', e1, e2⟩
                  have hO5 : Only [] w w5 := hO.trans o5 (fun x hx => .inr (by
                    have := hP.g1
                    have := hP.g2
                    have := hP.g3
                    have := hP.g4
                    simp at hx
                    omega))
                  have hO2 := hT1.only o5 (fun b hb hm => hdis b hb hm)
                  have hdis' : ∀ b ∈ L1, b ∉ [g', gb', rg, rgb] := by
                    intro b hm hb
                    have hb2 := (hT1.lt b hm).1
                    simp at hb
                    rcases hb with rfl | rfl | rfl | rfl
                    · rcases e1 with rfl | e1
                      · exact hdis _ hm (by simp)
                      · omega
                    · rcases e2 with rfl | e2
                      · exact hdis _ hm (by simp)
                      · omega
                    · exact hdis _ hm (by simp)
                    · exact hdis _ hm (by simp)

                  go_wp2_with fail
                  go_roundw
                  case rel => exact ⟨k2 + 1, _, _, _, _, rfl, rfl, rfl, by go_num, by omega, by omega, hO5, .inr ⟨_, _, _, _, _, _, _, _, rfl, rfl, rfl, rfl, hP', by omega⟩, hO2, hdis'⟩
                  case measure => simp [intOf]; omega
              · have d2 : decide ((k2 : Int) < 60) = false := by simp; omega
                go_wp2_with fail
                refine (same_two hT1 hT2).mono ?_
                rintro e wa ⟨rfl, ka, rfl⟩
                replace hT1 := hT1.only0 ((Only.refl [] _).drewN ka)
                replace hT2 := hT2.only0 ((Only.refl [] _).drewN ka)
                replace hO := hO.drewN ka
                generalize wr.drewN ka = wa at hT1 hT2 hO ⊢
                go_wp2_with fail
                refine (rsame_two hT1 hT2).mono ?_
                rintro e wb ⟨rfl, kb, rfl⟩
                replace hT1 := hT1.only0 ((Only.refl [] _).drewN kb)
                replace hO := hO.drewN kb
                clear hT2
                generalize wa.drewN kb = wb at hT1 hO ⊢
                have hself := same_two hT1 hT1
                rw [show (o1 == o1) = true from by simp] at hself
                have hee : ((o1 == o2) == (o1 == o2)) = true := by simp
                clear hT1
                go_wp2_with (first
                  | (go_at_call 17; refine hself.mono ?_; rintro e wc ⟨rfl, kc, rfl⟩)
                  | (go_at_call 7; refine (known_any _).mono ?_; rintro e wd ⟨rfl, od⟩))
                go_ret
                exact ⟨rfl, (hO.drewN kc).trans0 od⟩
            · have d1 : decide ((k2 : Int) < (n2 : Int)) = false := by simp; omega
              go_wp2_with fail
              refine (same_two hT1 hT2).mono ?_
              rintro e wa ⟨rfl, ka, rfl⟩
              replace hT1 := hT1.only0 ((Only.refl [] _).drewN ka)
              replace hT2 := hT2.only0 ((Only.refl [] _).drewN ka)
              replace hO := hO.drewN ka
              generalize wr.drewN ka = wa at hT1 hT2 hO ⊢
              go_wp2_with fail
              refine (rsame_two hT1 hT2).mono ?_
              rintro e wb ⟨rfl, kb, rfl⟩
              replace hT1 := hT1.only0 ((Only.refl [] _).drewN kb)
              replace hO := hO.drewN kb
              clear hT2
              generalize wa.drewN kb = wb at hT1 hO ⊢
              have hself := same_two hT1 hT1
              rw [show (o1 == o1) = true from by simp] at hself
              have hee : ((o1 == o2) == (o1 == o2)) = true := by simp
              clear hT1
              go_wp2_with (first
                | (go_at_call 17; refine hself.mono ?_; rintro e wc ⟨rfl, kc, rfl⟩)
                | (go_at_call 7; refine (known_any _).mono ?_; rintro e wd ⟨rfl, od⟩))
              go_ret
              exact ⟨rfl, (hO.drewN kc).trans0 od⟩

end Go.Proofs.Ytdlmgijbejkgaaa
