/- Code: an instruction is read from bytes. No condition. -/
import Derived.Test.YtmaljajdmgkakaaGreatDoorCt3
import Derived.Test.YtmaljajdmgkakaaGreatDoorWi5
import Derived.Test.YtmaljajdmgkakaaGreatDoorCd9
import Derived.BigRegion
namespace Go.Proofs.YtmaljajdmgkakaaGreatDoor
open Go.RowKit
set_option linter.unusedVariables false
set_option linter.all false
set_option maxRecDepth 20000

/-- One small number: its value, the error behind it, how many bytes. -/
def smR (l : List UInt8) (e : Int) : Int × Int × Nat :=
  (wrap64 ((resN l).1 : Int), if e = 0 then (if (resN l).2.1 = 0 ∧ 255 < (resN l).1 then 4 else (resN l).2.1) else e, (resN l).2.2)
set_option maxHeartbeats 4000000 in
theorem smallO_any {g gb cap at_ E : Nat} {bs : List UInt8} {er : Int} {w : World} (h : Rd w g gb cap bs at_) (hE : Blk w E 26 #[.int .i64 er]) (hgE : g ≠ E) (hbE : gb ≠ E) : Calls Tryz.prog 33 #[.pointer (some ⟨g, 0, none⟩), .pointer (some ⟨E, 0, none⟩)] w fun e w' => e = .returned (.int .i64 (smR (bs.drop at_) er).1) ∧ Only [g, E] w w' ∧ Rd w' g gb cap bs (at_ + (smR (bs.drop at_) er).2.2) ∧ Blk w' E 26 #[.int .i64 (smR (bs.drop at_) er).2.1] := by
  have RD := rdnumber_any h
  unfold NumRead at RD
  have hu := resN_lt (bs.drop at_)
  have he4 := resN_err (bs.drop at_)
  unfold smR
  obtain ⟨v, hv⟩ : ∃ v, (resN (bs.drop at_)).1 = v := ⟨_, rfl⟩
  obtain ⟨f, hf⟩ : ∃ v, (resN (bs.drop at_)).2.1 = v := ⟨_, rfl⟩
  obtain ⟨k, hk⟩ : ∃ v, (resN (bs.drop at_)).2.2 = v := ⟨_, rfl⟩
  simp only [hv, hf, hk] at RD hu he4 ⊢
  have RD := hide RD
  have HE := hide hE
  clear hv hf hk h hE
  by_cases h255 : f = 0 ∧ 255 < v
  · rw [if_pos h255]
    obtain ⟨rfl, h2⟩ := h255
    have d0 : decide ((255 : Int) < (v : Int)) = true := decide_eq_true (by omega)
    have d1 : decide (255 < v) = true := decide_eq_true h2
    by_cases he : er = 0
    · subst he
      rw [if_pos rfl]
      clear h2 he4
      go_enter Tryz.func33, Tryz.ntmps33
      go_wp2_with (go_at_call 74; (with_reducible refine RD.out.mono ?_); rintro e w1 ⟨rfl, o, r⟩; have bE := HE.out.only o (by simp; exact fun hc => hgE hc.symm); have x0 := bE.cell 0; have y0 := bE.frozen 0; have BE := hide bE; have RR := hide r; have O1 := hide (o.mono (T := [g, E]) (fun x hx => .inl (by simp at hx ⊢; exact .inl hx))); clear bE o r)
      go_ret
      exact ⟨rfl, O1.out.setCell (p := ⟨E, 0, none⟩) (.inl (by simp)) _, RR.out.only ((Only.refl [E] w1).setCell (p := ⟨E, 0, none⟩) (.inl (by simp)) _) (by simpa using hgE) (by simpa using hbE), by simpa using BE.out.set_ 0 (.int .i64 4)⟩
    · rw [if_neg he]
      have e0 : (er == 0) = false := by simpa using he
      clear h2 he4
      go_enter Tryz.func33, Tryz.ntmps33
      go_wp2_with (go_at_call 74; (with_reducible refine RD.out.mono ?_); rintro e w1 ⟨rfl, o, r⟩; have bE := HE.out.only o (by simp; exact fun hc => hgE hc.symm); have x0 := bE.cell 0; have BE := hide bE; have RR := hide r; have O1 := hide (o.mono (T := [g, E]) (fun x hx => .inl (by simp at hx ⊢; exact .inl hx))); clear bE o r)
      go_ret
      exact ⟨rfl, O1.out, RR.out, BE.out⟩
  · rw [if_neg h255]
    rcases (show (f = 0 ∧ ¬ 255 < v) ∨ f = 4 by omega) with ⟨rfl, h2⟩ | rfl
    · have d0 : decide ((255 : Int) < (v : Int)) = false := decide_eq_false (by omega)
      have d1 : decide (255 < v) = false := decide_eq_false h2
      by_cases he : er = 0
      · subst he
        rw [if_pos rfl]
        clear h2 he4 h255
        go_enter Tryz.func33, Tryz.ntmps33
        go_wp2_with (go_at_call 74; (with_reducible refine RD.out.mono ?_); rintro e w1 ⟨rfl, o, r⟩; have bE := HE.out.only o (by simp; exact fun hc => hgE hc.symm); have x0 := bE.cell 0; have y0 := bE.frozen 0; have BE := hide bE; have RR := hide r; have O1 := hide (o.mono (T := [g, E]) (fun x hx => .inl (by simp at hx ⊢; exact .inl hx))); clear bE o r)
        go_ret
        exact ⟨rfl, O1.out.setCell (p := ⟨E, 0, none⟩) (.inl (by simp)) _, RR.out.only ((Only.refl [E] w1).setCell (p := ⟨E, 0, none⟩) (.inl (by simp)) _) (by simpa using hgE) (by simpa using hbE), by simpa using BE.out.set_ 0 (.int .i64 0)⟩
      · rw [if_neg he]
        have e0 : (er == 0) = false := by simpa using he
        clear h2 he4 h255
        go_enter Tryz.func33, Tryz.ntmps33
        go_wp2_with (go_at_call 74; (with_reducible refine RD.out.mono ?_); rintro e w1 ⟨rfl, o, r⟩; have bE := HE.out.only o (by simp; exact fun hc => hgE hc.symm); have x0 := bE.cell 0; have BE := hide bE; have RR := hide r; have O1 := hide (o.mono (T := [g, E]) (fun x hx => .inl (by simp at hx ⊢; exact .inl hx))); clear bE o r)
        go_ret
        exact ⟨rfl, O1.out, RR.out, BE.out⟩
    · by_cases he : er = 0
      · subst he
        rw [if_pos rfl]
        clear he4 h255
        go_enter Tryz.func33, Tryz.ntmps33
        go_wp2_with (go_at_call 74; (with_reducible refine RD.out.mono ?_); rintro e w1 ⟨rfl, o, r⟩; have bE := HE.out.only o (by simp; exact fun hc => hgE hc.symm); have x0 := bE.cell 0; have y0 := bE.frozen 0; have BE := hide bE; have RR := hide r; have O1 := hide (o.mono (T := [g, E]) (fun x hx => .inl (by simp at hx ⊢; exact .inl hx))); clear bE o r)
        go_ret
        exact ⟨rfl, O1.out.setCell (p := ⟨E, 0, none⟩) (.inl (by simp)) _, RR.out.only ((Only.refl [E] w1).setCell (p := ⟨E, 0, none⟩) (.inl (by simp)) _) (by simpa using hgE) (by simpa using hbE), by simpa using BE.out.set_ 0 (.int .i64 4)⟩
      · rw [if_neg he]
        have e0 : (er == 0) = false := by simpa using he
        clear he4 h255
        go_enter Tryz.func33, Tryz.ntmps33
        go_wp2_with (go_at_call 74; (with_reducible refine RD.out.mono ?_); rintro e w1 ⟨rfl, o, r⟩; have bE := HE.out.only o (by simp; exact fun hc => hgE hc.symm); have x0 := bE.cell 0; have BE := hide bE; have RR := hide r; have O1 := hide (o.mono (T := [g, E]) (fun x hx => .inl (by simp at hx ⊢; exact .inl hx))); clear bE o r)
        go_ret
        exact ⟨rfl, O1.out, RR.out, BE.out⟩
set_option maxHeartbeats 4000000 in
theorem smallI_any {g gb cap at_ E : Nat} {bs : List UInt8} {er : Int} {w : World} (h : Rd w g gb cap bs at_) (hE : Blk w E 26 #[.int .i64 er]) (hgE : g ≠ E) (hbE : gb ≠ E) : Calls Tryz.prog 34 #[.pointer (some ⟨g, 0, none⟩), .pointer (some ⟨E, 0, none⟩)] w fun e w' => e = .returned (.int .i64 (smR (bs.drop at_) er).1) ∧ Only [g, E] w w' ∧ Rd w' g gb cap bs (at_ + (smR (bs.drop at_) er).2.2) ∧ Blk w' E 26 #[.int .i64 (smR (bs.drop at_) er).2.1] := by
  have RD := rdnumber_any h
  unfold NumRead at RD
  have hu := resN_lt (bs.drop at_)
  have he4 := resN_err (bs.drop at_)
  unfold smR
  obtain ⟨v, hv⟩ : ∃ v, (resN (bs.drop at_)).1 = v := ⟨_, rfl⟩
  obtain ⟨f, hf⟩ : ∃ v, (resN (bs.drop at_)).2.1 = v := ⟨_, rfl⟩
  obtain ⟨k, hk⟩ : ∃ v, (resN (bs.drop at_)).2.2 = v := ⟨_, rfl⟩
  simp only [hv, hf, hk] at RD hu he4 ⊢
  have RD := hide RD
  have HE := hide hE
  clear hv hf hk h hE
  by_cases h255 : f = 0 ∧ 255 < v
  · rw [if_pos h255]
    obtain ⟨rfl, h2⟩ := h255
    have d0 : decide ((255 : Int) < (v : Int)) = true := decide_eq_true (by omega)
    have d1 : decide (255 < v) = true := decide_eq_true h2
    by_cases he : er = 0
    · subst he
      rw [if_pos rfl]
      clear h2 he4
      go_enter Tryz.func34, Tryz.ntmps34
      go_wp2_with (go_at_call 74; (with_reducible refine RD.out.mono ?_); rintro e w1 ⟨rfl, o, r⟩; have bE := HE.out.only o (by simp; exact fun hc => hgE hc.symm); have x0 := bE.cell 0; have y0 := bE.frozen 0; have BE := hide bE; have RR := hide r; have O1 := hide (o.mono (T := [g, E]) (fun x hx => .inl (by simp at hx ⊢; exact .inl hx))); clear bE o r)
      go_ret
      exact ⟨rfl, O1.out.setCell (p := ⟨E, 0, none⟩) (.inl (by simp)) _, RR.out.only ((Only.refl [E] w1).setCell (p := ⟨E, 0, none⟩) (.inl (by simp)) _) (by simpa using hgE) (by simpa using hbE), by simpa using BE.out.set_ 0 (.int .i64 4)⟩
    · rw [if_neg he]
      have e0 : (er == 0) = false := by simpa using he
      clear h2 he4
      go_enter Tryz.func34, Tryz.ntmps34
      go_wp2_with (go_at_call 74; (with_reducible refine RD.out.mono ?_); rintro e w1 ⟨rfl, o, r⟩; have bE := HE.out.only o (by simp; exact fun hc => hgE hc.symm); have x0 := bE.cell 0; have BE := hide bE; have RR := hide r; have O1 := hide (o.mono (T := [g, E]) (fun x hx => .inl (by simp at hx ⊢; exact .inl hx))); clear bE o r)
      go_ret
      exact ⟨rfl, O1.out, RR.out, BE.out⟩
  · rw [if_neg h255]
    rcases (show (f = 0 ∧ ¬ 255 < v) ∨ f = 4 by omega) with ⟨rfl, h2⟩ | rfl
    · have d0 : decide ((255 : Int) < (v : Int)) = false := decide_eq_false (by omega)
      have d1 : decide (255 < v) = false := decide_eq_false h2
      by_cases he : er = 0
      · subst he
        rw [if_pos rfl]
        clear h2 he4 h255
        go_enter Tryz.func34, Tryz.ntmps34
        go_wp2_with (go_at_call 74; (with_reducible refine RD.out.mono ?_); rintro e w1 ⟨rfl, o, r⟩; have bE := HE.out.only o (by simp; exact fun hc => hgE hc.symm); have x0 := bE.cell 0; have y0 := bE.frozen 0; have BE := hide bE; have RR := hide r; have O1 := hide (o.mono (T := [g, E]) (fun x hx => .inl (by simp at hx ⊢; exact .inl hx))); clear bE o r)
        go_ret
        exact ⟨rfl, O1.out.setCell (p := ⟨E, 0, none⟩) (.inl (by simp)) _, RR.out.only ((Only.refl [E] w1).setCell (p := ⟨E, 0, none⟩) (.inl (by simp)) _) (by simpa using hgE) (by simpa using hbE), by simpa using BE.out.set_ 0 (.int .i64 0)⟩
      · rw [if_neg he]
        have e0 : (er == 0) = false := by simpa using he
        clear h2 he4 h255
        go_enter Tryz.func34, Tryz.ntmps34
        go_wp2_with (go_at_call 74; (with_reducible refine RD.out.mono ?_); rintro e w1 ⟨rfl, o, r⟩; have bE := HE.out.only o (by simp; exact fun hc => hgE hc.symm); have x0 := bE.cell 0; have BE := hide bE; have RR := hide r; have O1 := hide (o.mono (T := [g, E]) (fun x hx => .inl (by simp at hx ⊢; exact .inl hx))); clear bE o r)
        go_ret
        exact ⟨rfl, O1.out, RR.out, BE.out⟩
    · by_cases he : er = 0
      · subst he
        rw [if_pos rfl]
        clear he4 h255
        go_enter Tryz.func34, Tryz.ntmps34
        go_wp2_with (go_at_call 74; (with_reducible refine RD.out.mono ?_); rintro e w1 ⟨rfl, o, r⟩; have bE := HE.out.only o (by simp; exact fun hc => hgE hc.symm); have x0 := bE.cell 0; have y0 := bE.frozen 0; have BE := hide bE; have RR := hide r; have O1 := hide (o.mono (T := [g, E]) (fun x hx => .inl (by simp at hx ⊢; exact .inl hx))); clear bE o r)
        go_ret
        exact ⟨rfl, O1.out.setCell (p := ⟨E, 0, none⟩) (.inl (by simp)) _, RR.out.only ((Only.refl [E] w1).setCell (p := ⟨E, 0, none⟩) (.inl (by simp)) _) (by simpa using hgE) (by simpa using hbE), by simpa using BE.out.set_ 0 (.int .i64 4)⟩
      · rw [if_neg he]
        have e0 : (er == 0) = false := by simpa using he
        clear he4 h255
        go_enter Tryz.func34, Tryz.ntmps34
        go_wp2_with (go_at_call 74; (with_reducible refine RD.out.mono ?_); rintro e w1 ⟨rfl, o, r⟩; have bE := HE.out.only o (by simp; exact fun hc => hgE hc.symm); have x0 := bE.cell 0; have BE := hide bE; have RR := hide r; have O1 := hide (o.mono (T := [g, E]) (fun x hx => .inl (by simp at hx ⊢; exact .inl hx))); clear bE o r)
        go_ret
        exact ⟨rfl, O1.out, RR.out, BE.out⟩
/-- One instruction: what it is, the error, how many bytes. -/
def oneR (l : List UInt8) : Ins × Int × Nat :=
  let s1 := smR l 0
  let s2 := smR (l.drop s1.2.2) s1.2.1
  let s3 := smR (l.drop (s1.2.2 + s2.2.2)) s2.2.1
  let s4 := smR (l.drop (s1.2.2 + s2.2.2 + s3.2.2)) s3.2.1
  let n5 := resN (l.drop (s1.2.2 + s2.2.2 + s3.2.2 + s4.2.2))
  (⟨s1.1, s2.1, s3.1, s4.1, unzig n5.1⟩, if s4.2.1 = 0 then n5.2.1 else s4.2.1, s1.2.2 + s2.2.2 + s3.2.2 + s4.2.2 + n5.2.2)
set_option maxHeartbeats 8000000 in
theorem one_any {g gb cap at_ : Nat} {bs : List UInt8} {w : World} (h : Rd w g gb cap bs at_) : Calls Tryz.prog 32 #[.pointer (some ⟨g, 0, none⟩)] w fun e w' => e = .returned (.tuple #[.agg (insV (oneR (bs.drop at_)).1), .int .i64 (oneR (bs.drop at_)).2.1]) ∧ Only [g] w w' ∧ Rd w' g gb cap bs (at_ + (oneR (bs.drop at_)).2.2) := by
  obtain ⟨hlg, hlb⟩ := h.lt
  obtain ⟨X, hX⟩ : ∃ X, w.heap.size = X := ⟨_, rfl⟩
  have bX : Blk ((w.alloc (.cells #[.int .i64 0, .int .i64 0, .int .i64 0, .int .i64 0, .int .i64 0] 25)).alloc (.cells #[.int .i64 0] 26)) X 25 #[.int .i64 0, .int .i64 0, .int .i64 0, .int .i64 0, .int .i64 0] := by rw [← hX]; exact (Blk.new w 25 _).alloc _
  have bE : Blk ((w.alloc (.cells #[.int .i64 0, .int .i64 0, .int .i64 0, .int .i64 0, .int .i64 0] 25)).alloc (.cells #[.int .i64 0] 26)) (X + 1) 26 #[.int .i64 0] := by
    have := Blk.new (w.alloc (.cells #[.int .i64 0, .int .i64 0, .int .i64 0, .int .i64 0, .int .i64 0] 25)) 26 #[.int .i64 0]
    rw [World.size_alloc, hX] at this
    exact this
  have oV := ((Only.refl [] w).alloc (.cells #[.int .i64 0, .int .i64 0, .int .i64 0, .int .i64 0, .int .i64 0] 25)).alloc (.cells #[.int .i64 0] 26)
  have hV1 := h.only0 oV
  obtain ⟨V, hV⟩ : ∃ V, (w.alloc (.cells #[.int .i64 0, .int .i64 0, .int .i64 0, .int .i64 0, .int .i64 0] 25)).alloc (.cells #[.int .i64 0] 26) = V := ⟨_, rfl⟩
  rw [hV] at bX bE oV hV1
  have hsz : X + 2 ≤ V.heap.size := by have := bE.lt; omega
  have L : List UInt8 := []
  unfold oneR
  simp only
  obtain ⟨l, hl⟩ : ∃ l, bs.drop at_ = l := ⟨_, rfl⟩
  have hdr : ∀ k, bs.drop (at_ + k) = l.drop k := fun k => by rw [← hl, List.drop_drop]
  have NG : g ≠ X + 1 := by omega
  have NB : gb ≠ X + 1 := by omega
  have S1 := hide (fun W (r : Rd W g gb cap bs at_) (b : Blk W (X + 1) 26 #[.int .i64 0]) => smallO_any r b NG NB)
  rw [hl] at S1 ⊢
  obtain ⟨v1, hv1⟩ : ∃ v, (smR l 0).1 = v := ⟨_, rfl⟩
  obtain ⟨e1, he1⟩ : ∃ v, (smR l 0).2.1 = v := ⟨_, rfl⟩
  obtain ⟨k1, hk1⟩ : ∃ v, (smR l 0).2.2 = v := ⟨_, rfl⟩
  simp only [hv1, he1, hk1] at S1 ⊢
  have S2 := hide (fun W (r : Rd W g gb cap bs (at_ + k1)) (b : Blk W (X + 1) 26 #[.int .i64 e1]) => smallI_any r b NG NB)
  rw [hdr k1] at S2
  obtain ⟨v2, hv2⟩ : ∃ v, (smR (l.drop k1) e1).1 = v := ⟨_, rfl⟩
  obtain ⟨e2, he2⟩ : ∃ v, (smR (l.drop k1) e1).2.1 = v := ⟨_, rfl⟩
  obtain ⟨k2, hk2⟩ : ∃ v, (smR (l.drop k1) e1).2.2 = v := ⟨_, rfl⟩
  simp only [hv2, he2, hk2] at S2 ⊢
  have S3 := hide (fun W (r : Rd W g gb cap bs (at_ + k1 + k2)) (b : Blk W (X + 1) 26 #[.int .i64 e2]) => smallI_any r b NG NB)
  rw [Nat.add_assoc at_ k1 k2, hdr (k1 + k2)] at S3
  obtain ⟨v3, hv3⟩ : ∃ v, (smR (l.drop (k1 + k2)) e2).1 = v := ⟨_, rfl⟩
  obtain ⟨e3, he3⟩ : ∃ v, (smR (l.drop (k1 + k2)) e2).2.1 = v := ⟨_, rfl⟩
  obtain ⟨k3, hk3⟩ : ∃ v, (smR (l.drop (k1 + k2)) e2).2.2 = v := ⟨_, rfl⟩
  simp only [hv3, he3, hk3] at S3 ⊢
  have S4 := hide (fun W (r : Rd W g gb cap bs (at_ + (k1 + k2 + k3))) (b : Blk W (X + 1) 26 #[.int .i64 e3]) => smallI_any r b NG NB)
  rw [hdr (k1 + k2 + k3)] at S4
  obtain ⟨v4, hv4⟩ : ∃ v, (smR (l.drop (k1 + k2 + k3)) e3).1 = v := ⟨_, rfl⟩
  obtain ⟨e4, he4⟩ : ∃ v, (smR (l.drop (k1 + k2 + k3)) e3).2.1 = v := ⟨_, rfl⟩
  obtain ⟨k4, hk4⟩ : ∃ v, (smR (l.drop (k1 + k2 + k3)) e3).2.2 = v := ⟨_, rfl⟩
  simp only [hv4, he4, hk4] at S4 ⊢
  have S5 := hide (fun W (r : Rd W g gb cap bs (at_ + (k1 + k2 + k3 + k4))) => rdsigned_any r)
  unfold SigRead at S5
  rw [hdr (k1 + k2 + k3 + k4)] at S5
  obtain ⟨v5, hv5⟩ : ∃ v, unzig (resN (l.drop (k1 + k2 + k3 + k4))).1 = v := ⟨_, rfl⟩
  obtain ⟨e5, he5⟩ : ∃ v, (resN (l.drop (k1 + k2 + k3 + k4))).2.1 = v := ⟨_, rfl⟩
  obtain ⟨k5, hk5⟩ : ∃ v, (resN (l.drop (k1 + k2 + k3 + k4))).2.2 = v := ⟨_, rfl⟩
  simp only [hv5, he5, hk5] at S5 ⊢
  clear hdr hv1 he1 hk1 hv2 he2 hk2 hv3 he3 hk3 hv4 he4 hk4 hv5 he5 hk5 hl L
  have HX := hide hX
  have HV := hide hV
  have BX := hide bX
  have BE := hide bE
  have OV := hide oV
  have RV := hide hV1
  have HSZ := hide hsz
  have HLG := hide hlg
  have HLB := hide hlb
  clear hX hV bX bE oV hV1 hsz hlg hlb h NG NB
  have NGX := hide (show g ≠ X ∧ g ≠ X + 1 ∧ gb ≠ X ∧ gb ≠ X + 1 by have := HX.out; have := HLG.out; have := HLB.out; omega)
  go_enter Tryz.func32, Tryz.ntmps32
  go_wp2_with (first
    | (go_at_call 33; rw [HX.out, HV.out]; (with_reducible refine (S1.out _ RV.out BE.out).mono ?_); rintro e w1 ⟨rfl, o, r, b⟩; have R1 := hide r; have B1 := hide b; have X1 := hide (BX.out.only o (by have := NGX.out; simp; omega)); have O1 := hide o; clear o r b)
    | (go_at_call 34; (with_reducible refine (S2.out _ R1.out B1.out).mono ?_); rintro e w2 ⟨rfl, o, r, b⟩; have R2 := hide (show Rd w2 g gb cap bs (at_ + (k1 + k2)) from by rw [← Nat.add_assoc]; exact r); have B2 := hide b; have X2 := hide (X1.out.only o (by have := NGX.out; simp; omega)); have O2 := hide (O1.out.trans' o); clear o r b R1 B1 X1 O1)
    | (go_at_call 34; (with_reducible refine (S3.out _ R2.out B2.out).mono ?_); rintro e w3 ⟨rfl, o, r, b⟩; have R3 := hide (show Rd w3 g gb cap bs (at_ + (k1 + k2 + k3)) from by rw [← Nat.add_assoc at_]; exact r); have B3 := hide b; have X3 := hide (X2.out.only o (by have := NGX.out; simp; omega)); have O3 := hide (O2.out.trans' o); clear o r b R2 B2 X2 O2)
    | (go_at_call 34; (with_reducible refine (S4.out _ R3.out B3.out).mono ?_); rintro e w4 ⟨rfl, o, r, b⟩; have R4 := hide (show Rd w4 g gb cap bs (at_ + (k1 + k2 + k3 + k4)) from by rw [← Nat.add_assoc at_]; exact r); have B4 := hide b; have X4 := hide (X3.out.only o (by have := NGX.out; simp; omega)); have O4 := hide (O3.out.trans' o); clear o r b R3 B3 X3 O3))
  obtain ⟨I, hI⟩ : ∃ I, w4.heap.size = I := ⟨_, rfl⟩
  have hIb := Blk.new w4 25 #[.int .i64 v1, .int .i64 v2, .int .i64 v3, .int .i64 v4, .int .i64 0]
  have oA := (Only.refl [] w4).alloc (.cells #[.int .i64 v1, .int .i64 v2, .int .i64 v3, .int .i64 v4, .int .i64 0] 25)
  obtain ⟨u4, hu4⟩ : ∃ u, w4.alloc (.cells #[.int .i64 v1, .int .i64 v2, .int .i64 v3, .int .i64 v4, .int .i64 0] 25) = u := ⟨_, rfl⟩
  rw [hI, hu4] at hIb
  rw [hu4] at oA
  simp only [hI]
  rw [hu4]
  have hIX : X + 2 ≤ I ∧ g < I ∧ gb < I := by
    have := O4.out.size
    have := HSZ.out
    have := R4.out.lt
    omega
  have n1 : ¬ X + 1 = I := by omega
  have n2 : ¬ I = X + 1 := by omega
  have n3 : ¬ X = I := by omega
  have n4 : ¬ I = X := by omega
  have RA := R4.out.only0 oA
  have BEA := B4.out.only oA (by simp)
  have BXA := X4.out.only oA (by simp)
  have OA := O4.out.trans0 oA
  refine (S5.out _ RA).mono ?_
  rintro e w5 ⟨rfl, o, r⟩
  have hng := NGX.out
  have BI := hide (hIb.only o (by simp; omega))
  have BE5 := hide (BEA.only o (by simp; omega))
  have BX5 := hide (BXA.only o (by simp; omega))
  have O5 := hide ((OA.mono (T := [g, X + 1, I, X]) (fun x hx => .inl (by simp at hx ⊢; omega))).trans' (o.mono (T := [g, X + 1, I, X]) (fun x hx => .inl (by simp at hx ⊢; omega))))
  have R5 := hide r
  have i0 := BI.out.cell 0
  have i1 := BI.out.cell 1
  have i2 := BI.out.cell 2
  have i3 := BI.out.cell 3
  have i4 := BI.out.cell 4
  have f4 := BI.out.frozen 4
  have z0 := BE5.out.cell 0
  have fz0 := BE5.out.frozen 0
  clear hI hIb oA hu4 RA BEA BXA OA o r R4 B4 X4 O4 S1 S2 S3 S4 S5 BE RV BX
  by_cases hz : e4 = 0
  · have e0' : e4 = 0 := hz
    have eb : (e4 == 0) = true := by simp [hz]
    have fzX : w5.frozen? ⟨X + 1, 0, none⟩ = false := fz0
    subst hz
    go_wp2_with fail
    have BIU := hide (show Blk ((w5.setCell ⟨I, 4, none⟩ (.int .i64 v5)).setCell ⟨X + 1, 0, none⟩ (.int .i64 e5)) I 25 #[.int .i64 v1, .int .i64 v2, .int .i64 v3, .int .i64 v4, .int .i64 v5] from by simpa using ((BI.out.set_ 4 (.int .i64 v5)).far (p := ⟨X + 1, 0, none⟩) (by simpa using n2) (.int .i64 e5)))
    have BEU := hide (show Blk ((w5.setCell ⟨I, 4, none⟩ (.int .i64 v5)).setCell ⟨X + 1, 0, none⟩ (.int .i64 e5)) (X + 1) 26 #[.int .i64 e5] from by simpa using ((BE5.out.far (p := ⟨I, 4, none⟩) (by simpa using n1) (.int .i64 v5)).set_ 0 (.int .i64 e5)))
    have BXU := hide (show Blk ((w5.setCell ⟨I, 4, none⟩ (.int .i64 v5)).setCell ⟨X + 1, 0, none⟩ (.int .i64 e5)) X 25 #[.int .i64 0, .int .i64 0, .int .i64 0, .int .i64 0, .int .i64 0] from ((BX5.out.far (p := ⟨I, 4, none⟩) (by simpa using n3) (.int .i64 v5)).far (p := ⟨X + 1, 0, none⟩) (by simp) (.int .i64 e5)))
    have OU := hide (show Only [g, X + 1, I, X] V ((w5.setCell ⟨I, 4, none⟩ (.int .i64 v5)).setCell ⟨X + 1, 0, none⟩ (.int .i64 e5)) from ((O5.out.setCell (p := ⟨I, 4, none⟩) (.inl (by simp)) (.int .i64 v5)).setCell (p := ⟨X + 1, 0, none⟩) (.inl (by simp)) (.int .i64 e5)))
    have RU := hide (show Rd ((w5.setCell ⟨I, 4, none⟩ (.int .i64 v5)).setCell ⟨X + 1, 0, none⟩ (.int .i64 e5)) g gb cap bs _ from ((R5.out.only ((Only.refl [I] w5).setCell (p := ⟨I, 4, none⟩) (.inl (by simp)) (.int .i64 v5)) (by simp; omega) (by simp; omega)).only ((Only.refl [X + 1] _).setCell (p := ⟨X + 1, 0, none⟩) (.inl (by simp)) (.int .i64 e5)) (by simp; omega) (by simp; omega)))
    obtain ⟨U, hU⟩ : ∃ U, ((w5.setCell ⟨I, 4, none⟩ (.int .i64 v5)).setCell ⟨X + 1, 0, none⟩ (.int .i64 e5)) = U := ⟨_, rfl⟩
    rw [hU] at BIU BEU BXU OU RU ⊢
    clear hU i0 i1 i2 i3 i4 f4 z0 fz0 BI BE5 BX5 O5 R5
    have i0 := BIU.out.cell 0
    have i1 := BIU.out.cell 1
    have i2 := BIU.out.cell 2
    have i3 := BIU.out.cell 3
    have i4 := BIU.out.cell 4
    have z0 := BEU.out.cell 0
    have x0 := BXU.out.cell 0
    have y0 := BXU.out.frozen 0
    have x1 := BXU.out.cell 1
    have y1 := BXU.out.frozen 1
    have x2 := BXU.out.cell 2
    have y2 := BXU.out.frozen 2
    have x3 := BXU.out.cell 3
    have y3 := BXU.out.frozen 3
    have x4 := BXU.out.cell 4
    have y4 := BXU.out.frozen 4
    go_region
    (try go_wp2_with fail)
    have BFF := ((((((BXU.out).set_ 0 (.int .i64 v1)).set_ 1 (.int .i64 v2)).set_ 2 (.int .i64 v3)).set_ 3 (.int .i64 v4)).set_ 4 (.int .i64 v5)).drew
    have RF := RU.out.only (show Only [X] U ((((((U).setCell ⟨X, 0, none⟩ (.int .i64 v1)).setCell ⟨X, 1, none⟩ (.int .i64 v2)).setCell ⟨X, 2, none⟩ (.int .i64 v3)).setCell ⟨X, 3, none⟩ (.int .i64 v4)).setCell ⟨X, 4, none⟩ (.int .i64 v5)).drew from (((((((Only.refl [X] U)).setCell (p := ⟨X, 0, none⟩) (.inl (by simp)) (.int .i64 v1)).setCell (p := ⟨X, 1, none⟩) (.inl (by simp)) (.int .i64 v2)).setCell (p := ⟨X, 2, none⟩) (.inl (by simp)) (.int .i64 v3)).setCell (p := ⟨X, 3, none⟩) (.inl (by simp)) (.int .i64 v4)).setCell (p := ⟨X, 4, none⟩) (.inl (by simp)) (.int .i64 v5)).drew) (by simp; omega) (by simp; omega)
    refine bodyPost_ret (v := .tuple #[.agg #[.int .i64 v1, .int .i64 v2, .int .i64 v3, .int .i64 v4, .int .i64 v5], .int .i64 e5]) (results_cell2 Tryz.results32 rfl rfl (load25 (a := .int .i64 v1) (b := .int .i64 v2) (c := .int .i64 v3) (d := .int .i64 v4) (e := .int .i64 v5) (by simpa using BFF))) rfl ⟨by simp [insV, e0'], ?_, by simpa [Nat.add_assoc] using RF⟩
    exact (OV.out.mono (T := [g]) (by simp)).trans (show Only [g, X + 1, I, X] V _ from ((((((OU.out).setCell (p := ⟨X, 0, none⟩) (.inl (by simp)) (.int .i64 v1)).setCell (p := ⟨X, 1, none⟩) (.inl (by simp)) (.int .i64 v2)).setCell (p := ⟨X, 2, none⟩) (.inl (by simp)) (.int .i64 v3)).setCell (p := ⟨X, 3, none⟩) (.inl (by simp)) (.int .i64 v4)).setCell (p := ⟨X, 4, none⟩) (.inl (by simp)) (.int .i64 v5)).drew) (fun x hx => by
      have h1 := HX.out
      have h2 := hIX
      have h3 : x = g ∨ x = X + 1 ∨ x = I ∨ x = X := by simpa using hx
      rcases h3 with h | h | h | h
      · exact .inl (by simp [h])
      · exact .inr (by omega)
      · exact .inr (by omega)
      · exact .inr (by omega))
  · have e0' : ¬ e4 = 0 := hz
    have eb : (e4 == 0) = false := by simp [hz]
    clear hz
    go_wp2_with fail
    have BIU := hide (show Blk (w5.setCell ⟨I, 4, none⟩ (.int .i64 v5)) I 25 #[.int .i64 v1, .int .i64 v2, .int .i64 v3, .int .i64 v4, .int .i64 v5] from by simpa using (BI.out.set_ 4 (.int .i64 v5)))
    have BEU := hide (show Blk (w5.setCell ⟨I, 4, none⟩ (.int .i64 v5)) (X + 1) 26 #[.int .i64 e4] from by simpa using (BE5.out.far (p := ⟨I, 4, none⟩) (by simpa using n1) (.int .i64 v5)))
    have BXU := hide (show Blk (w5.setCell ⟨I, 4, none⟩ (.int .i64 v5)) X 25 #[.int .i64 0, .int .i64 0, .int .i64 0, .int .i64 0, .int .i64 0] from (BX5.out.far (p := ⟨I, 4, none⟩) (by simpa using n3) (.int .i64 v5)))
    have OU := hide (show Only [g, X + 1, I, X] V (w5.setCell ⟨I, 4, none⟩ (.int .i64 v5)) from (O5.out.setCell (p := ⟨I, 4, none⟩) (.inl (by simp)) (.int .i64 v5)))
    have RU := hide (show Rd (w5.setCell ⟨I, 4, none⟩ (.int .i64 v5)) g gb cap bs _ from (R5.out.only ((Only.refl [I] w5).setCell (p := ⟨I, 4, none⟩) (.inl (by simp)) (.int .i64 v5)) (by simp; omega) (by simp; omega)))
    obtain ⟨U, hU⟩ : ∃ U, (w5.setCell ⟨I, 4, none⟩ (.int .i64 v5)) = U := ⟨_, rfl⟩
    rw [hU] at BIU BEU BXU OU RU ⊢
    clear hU i0 i1 i2 i3 i4 f4 z0 fz0 BI BE5 BX5 O5 R5
    have i0 := BIU.out.cell 0
    have i1 := BIU.out.cell 1
    have i2 := BIU.out.cell 2
    have i3 := BIU.out.cell 3
    have i4 := BIU.out.cell 4
    have z0 := BEU.out.cell 0
    have x0 := BXU.out.cell 0
    have y0 := BXU.out.frozen 0
    have x1 := BXU.out.cell 1
    have y1 := BXU.out.frozen 1
    have x2 := BXU.out.cell 2
    have y2 := BXU.out.frozen 2
    have x3 := BXU.out.cell 3
    have y3 := BXU.out.frozen 3
    have x4 := BXU.out.cell 4
    have y4 := BXU.out.frozen 4
    go_region
    (try go_wp2_with fail)
    have BFF := ((((((BXU.out).set_ 0 (.int .i64 v1)).set_ 1 (.int .i64 v2)).set_ 2 (.int .i64 v3)).set_ 3 (.int .i64 v4)).set_ 4 (.int .i64 v5)).drew
    have RF := RU.out.only (show Only [X] U ((((((U).setCell ⟨X, 0, none⟩ (.int .i64 v1)).setCell ⟨X, 1, none⟩ (.int .i64 v2)).setCell ⟨X, 2, none⟩ (.int .i64 v3)).setCell ⟨X, 3, none⟩ (.int .i64 v4)).setCell ⟨X, 4, none⟩ (.int .i64 v5)).drew from (((((((Only.refl [X] U)).setCell (p := ⟨X, 0, none⟩) (.inl (by simp)) (.int .i64 v1)).setCell (p := ⟨X, 1, none⟩) (.inl (by simp)) (.int .i64 v2)).setCell (p := ⟨X, 2, none⟩) (.inl (by simp)) (.int .i64 v3)).setCell (p := ⟨X, 3, none⟩) (.inl (by simp)) (.int .i64 v4)).setCell (p := ⟨X, 4, none⟩) (.inl (by simp)) (.int .i64 v5)).drew) (by simp; omega) (by simp; omega)
    refine bodyPost_ret (v := .tuple #[.agg #[.int .i64 v1, .int .i64 v2, .int .i64 v3, .int .i64 v4, .int .i64 v5], .int .i64 e4]) (results_cell2 Tryz.results32 rfl rfl (load25 (a := .int .i64 v1) (b := .int .i64 v2) (c := .int .i64 v3) (d := .int .i64 v4) (e := .int .i64 v5) (by simpa using BFF))) rfl ⟨by simp [insV, e0'], ?_, by simpa [Nat.add_assoc] using RF⟩
    exact (OV.out.mono (T := [g]) (by simp)).trans (show Only [g, X + 1, I, X] V _ from ((((((OU.out).setCell (p := ⟨X, 0, none⟩) (.inl (by simp)) (.int .i64 v1)).setCell (p := ⟨X, 1, none⟩) (.inl (by simp)) (.int .i64 v2)).setCell (p := ⟨X, 2, none⟩) (.inl (by simp)) (.int .i64 v3)).setCell (p := ⟨X, 3, none⟩) (.inl (by simp)) (.int .i64 v4)).setCell (p := ⟨X, 4, none⟩) (.inl (by simp)) (.int .i64 v5)).drew) (fun x hx => by
      have h1 := HX.out
      have h2 := hIX
      have h3 : x = g ∨ x = X + 1 ∨ x = I ∨ x = X := by simpa using hx
      rcases h3 with h | h | h | h
      · exact .inl (by simp [h])
      · exact .inr (by omega)
      · exact .inr (by omega)
      · exact .inr (by omega))
end Go.Proofs.YtmaljajdmgkakaaGreatDoor
