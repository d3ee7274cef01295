/- Walks over wire's law: step, of bytes and of lists. No condition but at most 1048576 bytes. -/
import Derived.Test.YtdaeaepfbnlaeaaWi14
namespace Go.Proofs.Ytdaeaepfbnlaeaa
open Go.RowKit
set_option linter.unusedVariables false
set_option linter.all false
set_option maxRecDepth 20000
section
variable {w : World} {g gb cap h : Nat} {A : Option Addr} {c : Nat} {bs : List UInt8} {at_ : Nat}
theorem PP.alt (p : PP w g gb cap h A c bs at_) : 0 < bs.length → ∀ ad, A = some ad → ad.block < w.heap.size := fun hp ad had => by
  obtain ⟨a, ha, hc⟩ := p.rr.src hp
  rw [ha] at had
  obtain rfl : a = ad := by simpa using had
  have hx : ∃ u, (U8s bs)[0]? = some u := ⟨_, List.getElem?_eq_getElem (by rw [length_U8s]; exact hp)⟩
  obtain ⟨u, hu⟩ := hx
  have := World.block_lt_of_cell? w _ (hc 0 u hu)
  rwa [block_of_add] at this
theorem PP.fresh {w2 w3 : World} {S : List Nat} {at2 : Nat} (p : PP w g gb cap h A c bs at_) (p2 : PP w2 g gb cap h A c bs at2) (o : Only S w2 w3) (hS : ∀ x ∈ S, w.heap.size ≤ x) : PP w3 g gb cap h A c bs at2 := by
  have h1 := p.rd.lt
  have h2 := p.rr.hdr.lt
  exact ⟨p2.rd.only o (fun hm => by have := hS _ hm; omega) (fun hm => by have := hS _ hm; omega), p2.rr.only o (fun hm => by have := hS _ hm; omega) (fun hp ad had hm => by have := hS _ hm; have := p.alt hp ad had; omega), p2.n1, p2.n2, p2.n3, p2.sm⟩
theorem resC_neg {most : Int} (hm : most < 0) (l : List UInt8) : resC most l = ((0 : Int), (2 : Int), 0) := by unfold resC; rw [if_pos hm]
theorem resB_neg {most : Int} (hm : most < 0) (l : List UInt8) : resB most l = ((2 : Int), [], 0) := by unfold resB; rw [resC_neg hm]; rfl
theorem resL_neg {most : Int} (hm : most < 0) (l : List UInt8) : resL most l = ((2 : Int), [], 0) := by unfold resL; rw [resC_neg hm]; rfl

set_option maxHeartbeats 1000000 in
theorem step4 (most : Int) (hmx : most ≤ 9223372036854775807) (p : PP w g gb cap h A c bs at_) : Calls Try.prog 31 #[.pointer (some ⟨g, 0, none⟩), .pointer (some ⟨h, 0, none⟩), .agg #[.int .i64 4, .int .i64 most]] w (Stepped w g gb cap h A c bs) := by
  have P := hide p
  have hlt := p.rd.lt
  have hlt2 := p.rr.hdr.lt
  have hbx := Blk.new w 64 #[.int .i64 4, .int .i64 most]
  have o0 := (Only.refl [g, h] w).alloc (.cells #[.int .i64 4, .int .i64 most] 64)
  have p1 := hide (p.only0 ((Only.refl [] w).alloc (.cells #[.int .i64 4, .int .i64 most] 64)))
  have hsz0 : w.heap.size ≤ (w.alloc (.cells #[.int .i64 4, .int .i64 most] 64)).heap.size := by simp
  have hn := rdbytes_any most hmx p1.out.rd
  clear p
  by_cases hm : most < 0
  · rw [resB_neg hm] at hn
    have HN := hide hn
    clear hn
    go_enter Try.func31, Try.ntmps31
    go_wp2_with fail
    refine HN.out.mono ?_
    rintro e w1 ⟨o1, hR1, A1, c1, rfl, hrow1⟩
    have q1 : w1.cell? ⟨w.heap.size, 1, none⟩ = some (.int .i64 most) := by simpa using (hbx.only o1 (by simp; omega)).cell 1
    have hO := o0.trans o1 (by simp)
    have hP : PP w1 g gb cap h A c bs at_ := ⟨hR1, p1.out.second o1, p1.out.n1, p1.out.n2, p1.out.n3, p1.out.sm⟩
    clear hR1 o1 hrow1
    go_wp2_with (go_at_call 24; refine (num_any _ _).mono ?_; rintro e w' ⟨rfl, rfl⟩)
    go_ret
    exact ⟨rfl, hO, _, hP⟩
  · obtain ⟨q, hq⟩ : ∃ q, Hid (resB most (bs.drop at_) = q) := ⟨_, hide rfl⟩
    rw [hq.out] at hn
    obtain ⟨er, ds, k⟩ := q
    have HN := hide hn
    clear hn
    go_enter Try.func31, Try.ntmps31
    go_wp2_with fail
    refine HN.out.mono ?_
    rintro e w1 ⟨o1, hR1, A1, c1, rfl, hrow1⟩
    have hb1 := hbx.only o1 (by simp; omega)
    have q1 : w1.cell? ⟨w.heap.size, 1, none⟩ = some (.int .i64 most) := by simpa using hb1.cell 1
    have hRR := p1.out.second o1
    have hn := rrdbytes_any most (by omega) hmx hRR
    rw [hq.out] at hn
    have HN2 := hide hn
    clear hn
    go_wp2_with fail
    refine HN2.out.mono ?_
    rintro e w2 ⟨o2, hR2, A2, c2, rfl, hrow2⟩
    have hP2 := p1.out.join hR1 o2 hR2
    have hO := (o0.trans o1 (by simp)).trans o2 (by simp)
    have hrow1' := own_only' hrow1 o2 (fun x hx => by have := (own_ge hrow1 x hx).1; simp; omega)
    have e1 := run_str_any A1 ds.length c1 ds w2 rfl (Src.own hrow1')
    have e2 := run_str_any A2 ds.length c2 ds w2 rfl (Src.own hrow2)
    have hdl : ds.length ≤ 140737488351300 := by
      have h1 : (resB most (bs.drop at_)).2.1 = ds := by rw [hq.out]
      have h2 := p1.out.sm
      have h3 : (resB most (bs.drop at_)).2.1.length ≤ (bs.drop at_).length := by
        unfold resB
        split
        · split
          · simp
          · simp only [List.length_take, List.length_drop]; omega
        · simp
      rw [h1, List.length_drop] at h3
      omega
    have HSP := hide (spoil_any _ A1 ds.length c1 _ w2 hrow1' hdl (by have := o1.size; have := o2.size; omega))
    have hA1 : ∀ x ∈ blkOf A1, w.heap.size ≤ x := fun x hx => by have := (own_ge hrow1 x hx).1; omega
    clear hR1 hR2 hRR o1 o2 hrow1 hrow1' hrow2 hb1
    go_wp2_with (go_at_call 24; refine (num_any _ _).mono ?_; rintro e w' ⟨rfl, rfl⟩)
    refine HSP.out.mono ?_
    rintro e w3 ⟨rfl, o3⟩
    go_wp2_with fail
    go_ret
    exact ⟨rfl, hO.trans o3 (fun x hx => .inr (hA1 x hx)), _, P.out.fresh hP2 o3 hA1⟩

set_option maxHeartbeats 1000000 in
theorem step5 (most : Int) (hmx : most ≤ 9223372036854775807) (p : PP w g gb cap h A c bs at_) : Calls Try.prog 31 #[.pointer (some ⟨g, 0, none⟩), .pointer (some ⟨h, 0, none⟩), .agg #[.int .i64 5, .int .i64 most]] w (Stepped w g gb cap h A c bs) := by
  have P := hide p
  have hlt := p.rd.lt
  have hlt2 := p.rr.hdr.lt
  have hbx := Blk.new w 64 #[.int .i64 5, .int .i64 most]
  have o0 := (Only.refl [g, h] w).alloc (.cells #[.int .i64 5, .int .i64 most] 64)
  have p1 := hide (p.only0 ((Only.refl [] w).alloc (.cells #[.int .i64 5, .int .i64 most] 64)))
  have hsz0 : w.heap.size ≤ (w.alloc (.cells #[.int .i64 5, .int .i64 most] 64)).heap.size := by simp
  have hn := take_any most hmx p.sm p1.out.rd
  clear p
  by_cases hm : most < 0
  · rw [resL_neg hm] at hn
    have HN := hide hn
    clear hn
    go_enter Try.func31, Try.ntmps31
    go_wp2_with fail
    refine HN.out.mono ?_
    rintro e w1 ⟨o1, hR1, A1, c1, rfl, hrow1⟩
    have q1 : w1.cell? ⟨w.heap.size, 1, none⟩ = some (.int .i64 most) := by simpa using (hbx.only o1 (by simp; omega)).cell 1
    have hO := o0.trans o1 (by simp)
    have hP : PP w1 g gb cap h A c bs at_ := ⟨hR1, p1.out.second o1, p1.out.n1, p1.out.n2, p1.out.n3, p1.out.sm⟩
    clear hR1 o1 hrow1
    go_wp2_with (go_at_call 24; refine (num_any _ _).mono ?_; rintro e w' ⟨rfl, rfl⟩)
    go_ret
    exact ⟨rfl, hO, _, hP⟩
  · obtain ⟨q, hq⟩ : ∃ q, Hid (resL most (bs.drop at_) = q) := ⟨_, hide rfl⟩
    rw [hq.out] at hn
    obtain ⟨er, ds, k⟩ := q
    have HN := hide hn
    clear hn
    go_enter Try.func31, Try.ntmps31
    go_wp2_with fail
    refine HN.out.mono ?_
    rintro e w1 ⟨o1, hR1, A1, c1, rfl, hrow1⟩
    have hb1 := hbx.only o1 (by simp; omega)
    have q1 : w1.cell? ⟨w.heap.size, 1, none⟩ = some (.int .i64 most) := by simpa using hb1.cell 1
    have hRR := p1.out.second o1
    have hn := rnumbers_any most (by omega) hmx P.out.sm hRR (fun hp ad had => by have := P.out.alt hp ad had; have := o1.size; omega)
    rw [hq.out] at hn
    have HN2 := hide hn
    clear hn
    go_wp2_with fail
    refine HN2.out.mono ?_
    rintro e w2 ⟨o2, hR2, A2, c2, rfl, hrow2⟩
    have hP2 := p1.out.join hR1 o2 hR2
    have hO := (o0.trans o1 (by simp)).trans o2 (by simp)
    have hrow1' := own_only' hrow1 o2 (fun x hx => by have := (own_ge hrow1 x hx).1; simp; omega)
    have R1 := hide hrow1'
    have R2 := hide hrow2
    have hdl := (own_cap hrow2)
    unfold maxLen at hdl
    clear hR1 hR2 hRR o1 o2 hrow1 hrow1' hrow2 hb1
    go_wp2_with (go_at_call 24; refine (num_any _ _).mono ?_; rintro e w' ⟨rfl, rfl⟩)
    go_loopw [28] (fun vi wr => ∃ (j m : Nat), vi = .int .i64 (j : Int) ∧ j ≤ ds.length ∧ w2.drewN m = wr) (fun vi _ => ds.length - (intOf vi).toNat)
    case atStart => exact ⟨0, 0, rfl, Nat.zero_le _, rfl⟩
    case round =>
      obtain ⟨j, m, rfl, hj, rfl⟩ := hrel
      by_cases hjl : j < ds.length
      · have j0 : (0 : Int) ≤ (j : Int) := by omega
        have j1 : (j : Int) < (ds.length : Int) := by omega
        obtain ⟨x, hx⟩ : ∃ x, ds[j]? = some x := ⟨_, List.getElem?_eq_getElem hjl⟩
        obtain ⟨b1, rfl, hc1, _⟩ := own_cell R1.out (by omega)
        obtain ⟨b2, rfl, hc2, _⟩ := own_cell R2.out (by omega)
        have z1 : w2.cell? ⟨b1, j, none⟩ = some (.int .u64 (x : Int)) := by rw [hc1 j (by omega)]; simp [U64s, hx]
        have z2 : w2.cell? ⟨b2, j, none⟩ = some (.int .u64 (x : Int)) := by rw [hc2 j (by omega)]; simp [U64s, hx]
        clear hc1 hc2 hx
        go_wp2_with fail
        go_quiet (fail)
        go_wp2_with fail
        go_roundw
        case rel => exact ⟨j + 1, _, by go_num, by omega, by rw [← World.drewN_drewN]⟩
        case measure => simp [intOf]; omega
      · have j1 : ¬ (j : Int) < (ds.length : Int) := by omega
        go_wp2_with fail
        go_ret
        exact ⟨rfl, hO.drewN _, _, hP2.only0 ((Only.refl _ _).drewN _)⟩
theorem step_any (kd most : Int) (hmx : most ≤ 9223372036854775807) (p : PP w g gb cap h A c bs at_) : Calls Try.prog 31 #[.pointer (some ⟨g, 0, none⟩), .pointer (some ⟨h, 0, none⟩), .agg #[.int .i64 kd, .int .i64 most]] w (Stepped w g gb cap h A c bs) := by
  by_cases k1 : kd = 1
  · subst k1; exact step1 most p
  by_cases k2 : kd = 2
  · subst k2; exact step2 most p
  by_cases k3 : kd = 3
  · subst k3; exact step3 most p
  by_cases k4 : kd = 4
  · subst k4; exact step4 most hmx p
  by_cases k5 : kd = 5
  · subst k5; exact step5 most hmx p
  exact step_other kd most (by omega) p
end
end Go.Proofs.Ytdaeaepfbnlaeaa
