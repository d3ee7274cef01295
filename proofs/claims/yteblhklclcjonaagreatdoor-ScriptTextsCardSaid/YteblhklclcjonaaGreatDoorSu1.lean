/- Script: strconv.ParseUint to the base 16, of at most two bytes. Condition: Env. -/
import Derived.Test.YteblhklclcjonaaGreatDoorSc5
import Derived.Test.YteblhklclcjonaaGreatDoorCd8
import Derived.Laws.IdiomStrings
namespace Go.Proofs.YteblhklclcjonaaGreatDoor
open Go.RowKit
set_option linter.unusedVariables false
set_option linter.all false
set_option maxRecDepth 100000

theorem bytes_new (w : World) (s : List UInt8) : ∃ (c : Nat) (w' : World), (convert 9 68 (.string (bs s))).run Tryz.prog w = .ok (.slice (some ⟨w.heap.size, 0, none⟩) s.length c) w' ∧ Only [] w w' ∧ Src w' (some ⟨w.heap.size, 0, none⟩) s ∧ w.heap.size < w'.heap.size ∧ ∀ cs, w'.heap[w.heap.size]? ≠ some (.cells cs 5 (0, 0)) := by
  have h := Go.run_bytes_of_string (P := Tryz.prog) w 9 68 5 (bs s) Tryz.underlying9 Tryz.underlying68 Tryz.underlying5
  rw [bs_size] at h
  have hb := heap_alloc_new w.drew (.cells (Go.bytesRow (bs s) (Go.grownCap w s.length 0 5)) 5 ((Go.bytesRow (bs s) (Go.grownCap w s.length 0 5)).size, (Go.bytesRow (bs s) (Go.grownCap w s.length 0 5)).size + 1))
  refine ⟨_, _, h, ((Only.refl [] w).drew).alloc _, (fun hp => ⟨_, rfl, fun j u hj => ?_⟩), by rw [World.size_alloc]; exact Nat.lt_succ_self _, fun cs hc => ?_⟩
  · rw [add_mk, Nat.zero_add]
    have hc := cell_of_row _ _ j _ _ _ hb
    refine hc.trans ?_
    have hl : j < s.length := by
      have := (List.getElem?_eq_some_iff.1 hj).1
      simpa [U8s] using this
    unfold Go.bytesRow
    rw [Array.getElem?_append_left (by simp [bs]; exact hl)]
    simp only [U8s, List.getElem?_map] at hj
    simp [bs, hl] at hj ⊢
    simpa [U8] using hj
  · have h2 := hb.symm.trans hc
    injection h2 with h2
    injection h2 with _ _ h3
    injection h3 with _ h4
    omega
theorem bytes_of (w : World) (s : List UInt8) : ∃ (c : Nat) (w' : World), (convert 9 68 (.string (bs s))).run Tryz.prog w = .ok (.slice (some ⟨w.heap.size, 0, none⟩) s.length c) w' ∧ Only [] w w' ∧ Src w' (some ⟨w.heap.size, 0, none⟩) s := by
  obtain ⟨c, w', h1, h2, h3, _⟩ := bytes_new w s
  exact ⟨c, w', h1, h2, h3⟩
theorem Src.at {w : World} {g : Nat} {s : List UInt8} (h : Src w (some ⟨g, 0, none⟩) s) {j : Nat} {c : UInt8} (hc : s[j]? = some c) : w.cell? ⟨g, j, none⟩ = some (.int .u8 (c.toNat : Int)) := by
  have hl : j < s.length := (List.getElem?_eq_some_iff.1 hc).1
  obtain ⟨ad, e, hh⟩ := h (by omega)
  injection e with e
  subst e
  have := hh j (U8 c) (by rw [U8s_get, hc]; rfl)
  rw [add_mk, Nat.zero_add] at this
  exact this
def lowB (c : UInt8) : Int := bits .or .u8 ((c.toNat : Nat) : Int) 32
theorem low_fin : ∀ k : Fin 256, let c := UInt8.ofNat k.val
    (48 ≤ c.toNat ∧ c.toNat ≤ 57 ∧ hexV c = c.toNat - 48) ∨ ((¬ (48 ≤ c.toNat ∧ c.toNat ≤ 57) ∧ c.toNat ≠ 95) ∧ 97 ≤ lowB c ∧ lowB c ≤ 102 ∧ (hexV c : Int) = lowB c - 87) ∨
    ((¬ (48 ≤ c.toNat ∧ c.toNat ≤ 57) ∧ c.toNat ≠ 95) ∧ 103 ≤ lowB c ∧ lowB c ≤ 122 ∧ hexV c = 16) ∨ (¬ (48 ≤ c.toNat ∧ c.toNat ≤ 57) ∧ (lowB c < 97 ∨ 122 < lowB c) ∧ hexV c = 16) := by decide +kernel
theorem low_cases (c : UInt8) :
    (48 ≤ c.toNat ∧ c.toNat ≤ 57 ∧ hexV c = c.toNat - 48) ∨ ((¬ (48 ≤ c.toNat ∧ c.toNat ≤ 57) ∧ c.toNat ≠ 95) ∧ 97 ≤ lowB c ∧ lowB c ≤ 102 ∧ (hexV c : Int) = lowB c - 87) ∨
    ((¬ (48 ≤ c.toNat ∧ c.toNat ≤ 57) ∧ c.toNat ≠ 95) ∧ 103 ≤ lowB c ∧ lowB c ≤ 122 ∧ hexV c = 16) ∨ (¬ (48 ≤ c.toNat ∧ c.toNat ≤ 57) ∧ (lowB c < 97 ∨ 122 < lowB c) ∧ hexV c = 16) := by
  have h := low_fin ⟨c.toNat, c.toNat_lt⟩
  simp only [UInt8.ofNat_toNat] at h
  exact h
theorem lower_any (c : UInt8) (w : World) : Calls Tryz.prog 130 #[.int .u8 (c.toNat : Int)] w fun e w' => e = .returned (.int .u8 (lowB c)) ∧ w' = w := Tryz.internal_strconv_lower _ w
def hxF (s : List UInt8) : Nat := s.foldl (fun a c => a * 16 + hexV c) 0
theorem hexV_le (c : UInt8) : hexV c ≤ 16 := by unfold hexV; split <;> first | omega | (split <;> first | omega | (split <;> omega))
theorem hexP_all {s : List UInt8} (hl : s.length ≤ 2) (h : ∀ c ∈ s, hexV c < 16) : hexP s = hxF s := by
  match s, hl with
  | [], _ => rfl
  | [a], _ =>
    have h1 := h a (by simp)
    simp [hexP, hxF, h1]
  | [a, b], _ =>
    have h1 := h a (by simp)
    have h2 := h b (by simp)
    simp [hexP, hxF, h1, h2]
theorem hexP_bad {s : List UInt8} {c : UInt8} (hc : c ∈ s) (h : hexV c = 16) : hexP s = 0 := by
  match s with
  | [] => cases hc
  | [a] => simp at hc; subst hc; simp [hexP, h]
  | [a, b] =>
    simp at hc
    rcases hc with rfl | rfl <;> simp [hexP, h]
  | a :: b :: d :: r => rfl
theorem hxF_snoc (s : List UInt8) (c : UInt8) : hxF (s ++ [c]) = hxF s * 16 + hexV c := by unfold hxF; rw [List.foldl_append]; rfl
theorem hexP_lt (s : List UInt8) : hexP s < 256 := by
  match s with
  | [] => simp [hexP]
  | [a] => simp only [hexP]; split <;> omega
  | [a, b] => simp only [hexP]; split <;> omega
  | a :: b :: d :: r => simp [hexP]
/-- What the inner ParseUint answers. -/
def puV (s : List UInt8) (e : Value) : Value := .tuple #[.int .u64 (hexP s : Nat), e]
set_option maxHeartbeats 8000000 in
theorem ipu_any (s : List UInt8) (hl : s.length ≤ 2) (w : World) : Calls Tryz.prog 115 #[.string (bs s), .int .i64 16, .int .i64 8] w fun e w' => (∃ er, e = .returned (puV s er) ∧ (er = .nilIface ∨ er = .iface 139 (.int .i64 2))) ∧ Only [] w w' := by
  have htr : (bs s).toList = s := by rw [ByteArray.toList_eq, bs_list]
  by_cases hs0 : s = []
  · subst hs0
    go_enter Tryz.func115, Tryz.ntmps115
    go_wp2_with fail
    go_ret2
    exact ⟨⟨_, rfl, .inr rfl⟩, Only.refl _ _⟩
  · have hne : ¬ (bs s).toList = [] := by rw [htr]; exact hs0
    have hne2 : (bs s).toList.isEmpty = false := by rw [htr]; simpa using hs0
    obtain ⟨cp, w1, hrun, o1, hsrc⟩ := bytes_of w s
    obtain ⟨X, hX⟩ : ∃ X, w.heap.size = X := ⟨_, rfl⟩
    rw [hX] at hsrc hrun
    obtain ⟨n, hn⟩ : ∃ n, s.length = n := ⟨_, rfl⟩
    rw [hn] at hrun hl
    have HN := hide hn
    have HSRC := hide hsrc
    have O1 := hide o1
    clear hn hsrc o1 htr
    go_enter Tryz.func115, Tryz.ntmps115
    go_wp2_with fail
    go_loopw [12, 13, 101] (fun v12 vv vj wr => ∃ (j v : Nat), v12 = .bool false ∧ j ≤ n ∧ vj = .int .i64 j ∧ vv = .int .u64 v ∧ Hid (v = hxF (s.take j)) ∧ (j = 0 → v = 0) ∧ (j ≤ 1 → v ≤ 15) ∧ v ≤ 255 ∧ Hid (∀ c ∈ s.take j, hexV c < 16) ∧ w1 = wr) (fun _ _ vj _ => n - (intOf vj).toNat)
    case atStart => exact ⟨0, 0, rfl, Nat.zero_le _, rfl, rfl, hide rfl, fun _ => rfl, fun _ => by omega, by omega, hide (by simp), rfl⟩
    case round =>
      obtain ⟨j, v, rfl, hj, rfl, rfl, hv, hv0, hv1, hv2, hall, hw1⟩ := hrel
      obtain rfl := hw1.symm
      clear hw1
      by_cases hlt : j < n
      · obtain ⟨c, hc⟩ : ∃ c, s[j]? = some c := ⟨_, List.getElem?_eq_getElem (by rw [HN.out]; exact hlt)⟩
        have a0 := HSRC.out.at hc
        have hcm : c ∈ s := List.mem_of_getElem? hc
        have htk : s.take (j + 1) = s.take j ++ [c] := by rw [List.take_add_one, hc]; rfl
        have j0 : (0 : Int) ≤ (j : Int) := by omega
        have j1 : (j : Int) < (n : Int) := by omega
        have hv15 : v ≤ 15 := hv1 (by omega)
        have hx := hexV_le c
        have LO := fun V => lower_any c V
        have hcl := c.toNat_lt
        have bad : hexV c = 16 → hexP s = 0 := fun h => hexP_bad hcm h
        have next : hexV c < 16 → (v * 16 + hexV c = hxF (s.take (j + 1)) ∧ ∀ d ∈ s.take (j + 1), hexV d < 16) := fun h => by
          rw [htk, hxF_snoc, ← hv.out]
          refine ⟨rfl, fun d hd => ?_⟩
          rcases List.mem_append.1 hd with hd | hd
          · exact hall.out d hd
          · simp at hd; subst hd; exact h
        have hjj : j + 1 ≤ 1 → v = 0 := fun h => hv0 (by omega)
        have low := low_cases c
        obtain ⟨lo, hlo⟩ : ∃ x, lowB c = x := ⟨_, rfl⟩
        obtain ⟨cn, hcn⟩ : ∃ x, c.toNat = x := ⟨_, rfl⟩
        obtain ⟨hx', hhx⟩ : ∃ x, hexV c = x := ⟨_, rfl⟩
        rw [hlo, hcn] at LO
        rw [hlo, hcn, hhx] at low
        rw [hcn] at a0 hcl
        rw [hhx] at bad next hx
        have BAD := hide bad
        have NEXT := hide next
        have HJJ := hide hjj
        have m1 : decide ((1152921504606846976 : Int) ≤ (v : Int)) = false := decide_eq_false (by omega)
        have m1' : ¬ (1152921504606846976 : Int) ≤ (v : Int) := by omega
        have m2 : IntKind.u64.wrap ((v : Int) * 16) = ((v * 16 : Nat) : Int) := by rw [IntWalk.u64_in _ (by omega)]; push_cast; rfl
        have LO := hide LO
        clear hlo hcn hhx htk hcm hc bad next hv0 hv1 hjj
        rcases low with ⟨c1, c2, c3⟩ | ⟨⟨c0, c95⟩, c1, c2, c3⟩ | ⟨⟨c0, c95⟩, c1, c2, c3⟩ | ⟨c0, c1, c3⟩
        · have n95 : ((cn : Int) == 95) = false := by simp; omega
          have d1 : decide ((48 : Int) ≤ (cn : Int)) = true := decide_eq_true (by omega)
          have d2 : decide ((cn : Int) ≤ 57) = true := decide_eq_true (by omega)
          have e1 : ((cn : Int) - 48) % 256 = (hx' : Int) := by omega
          have e2 : IntKind.u8.wrap ((cn : Int) - 48) = (hx' : Int) := by rw [IntKind.wrap_u8]; omega
          obtain ⟨q, hq⟩ : ∃ q, v * 16 + hx' = q := ⟨_, rfl⟩
          have HNX := hide (NEXT.out (by omega))
          rw [hq] at HNX
          have s1 : (v : Int) * 16 + (hx' : Int) = (q : Int) := by omega
          have s2 : decide ((q : Int) < (v : Int) * 16) = false := decide_eq_false (by omega)
          have s2' : ¬ (q : Int) < (v : Int) * 16 := by omega
          have s3 : decide ((255 : Int) < (q : Int)) = false := decide_eq_false (by omega)
          have s3' : ¬ (255 : Int) < (q : Int) := by omega
          have d3 : decide ((16 : Int) ≤ (hx' : Int)) = false := decide_eq_false (by omega)
          have d3' : ¬ (16 : Int) ≤ (hx' : Int) := by omega
          have HQ := hide (show q ≤ 255 ∧ (v = 0 → q ≤ 15) by omega)
          clear c1 c2 c3 hq hx hcl hv15 hv2
          go_wp2_with (go_at_call 130; (with_reducible refine (LO.out _).mono ?_); rintro e w2 ⟨rfl, hw⟩; obtain rfl := hw.symm; clear hw)
          go_roundw
          case rel => exact ⟨j + 1, q, rfl, by omega, by go_num, rfl, hide HNX.out.1, fun h => by omega, fun h => HQ.out.2 (HJJ.out h), HQ.out.1, hide HNX.out.2, (by first | rfl | trivial)⟩
          case measure => simp [intOf]; omega
        · have n95 : ((cn : Int) == 95) = false := by simp; omega
          have d1 : decide ((48 : Int) ≤ (cn : Int)) = decide (48 ≤ cn) := by rw [decide_eq_decide]; omega
          have f1 : (lo - 97) % 256 = lo - 97 := by omega
          have f2 : (lo - 97 + 10) % 256 = (hx' : Int) := by omega
          have f3 : IntKind.u8.wrap (lo - 97) = lo - 97 := by rw [IntKind.wrap_u8]; omega
          have f4 : IntKind.u8.wrap (lo - 97 + 10) = (hx' : Int) := by rw [IntKind.wrap_u8]; omega
          have g1 : decide ((97 : Int) ≤ lo) = true := decide_eq_true (by omega)
          have g2 : decide (lo ≤ 122) = true := decide_eq_true (by omega)
          obtain ⟨q, hq⟩ : ∃ q, v * 16 + hx' = q := ⟨_, rfl⟩
          have HNX := hide (NEXT.out (by omega))
          rw [hq] at HNX
          have s1 : (v : Int) * 16 + (hx' : Int) = (q : Int) := by omega
          have s2 : decide ((q : Int) < (v : Int) * 16) = false := decide_eq_false (by omega)
          have s2' : ¬ (q : Int) < (v : Int) * 16 := by omega
          have s3 : decide ((255 : Int) < (q : Int)) = false := decide_eq_false (by omega)
          have s3' : ¬ (255 : Int) < (q : Int) := by omega
          have d3 : decide ((16 : Int) ≤ (hx' : Int)) = false := decide_eq_false (by omega)
          have d3' : ¬ (16 : Int) ≤ (hx' : Int) := by omega
          have HQ := hide (show q ≤ 255 ∧ (v = 0 → q ≤ 15) by omega)
          have dd : (decide ((48 : Int) ≤ (cn : Int)) = false) ∨ (decide ((48 : Int) ≤ (cn : Int)) = true ∧ decide ((cn : Int) ≤ 57) = false) := by
            by_cases h : (48 : Int) ≤ (cn : Int)
            · exact .inr ⟨decide_eq_true h, decide_eq_false (by omega)⟩
            · exact .inl (decide_eq_false h)
          clear d1 c0 c95 c1 c2 c3 hq hx hcl hv15 hv2
          rcases dd with d1 | ⟨d1, d2⟩
          all_goals
            go_wp2_with (go_at_call 130; (with_reducible refine (LO.out _).mono ?_); rintro e w2 ⟨rfl, hw⟩; obtain rfl := hw.symm; clear hw)
            go_roundw
            case rel => exact ⟨j + 1, q, rfl, by omega, by go_num, rfl, hide HNX.out.1, fun h => by omega, fun h => HQ.out.2 (HJJ.out h), HQ.out.1, hide HNX.out.2, (by first | rfl | trivial)⟩
            case measure => simp [intOf]; omega
        · have n95 : ((cn : Int) == 95) = false := by simp; omega
          have g1 : decide ((97 : Int) ≤ lo) = true := decide_eq_true (by omega)
          have g2 : decide (lo ≤ 122) = true := decide_eq_true (by omega)
          have f1 : (lo - 97) % 256 = lo - 97 := by omega
          obtain ⟨z, hz⟩ : ∃ z : Int, lo - 97 + 10 = z := ⟨_, rfl⟩
          have f2 : z % 256 = z := by omega
          have f3 : IntKind.u8.wrap (lo - 97) = lo - 97 := by rw [IntKind.wrap_u8]; omega
          have f4 : IntKind.u8.wrap z = z := by rw [IntKind.wrap_u8]; omega
          have f5 : decide ((16 : Int) ≤ z) = true := decide_eq_true (by omega)
          have f6 : (16 : Int) ≤ z := by omega
          have HB := hide (BAD.out c3)
          have dd : (decide ((48 : Int) ≤ (cn : Int)) = false) ∨ (decide ((48 : Int) ≤ (cn : Int)) = true ∧ decide ((cn : Int) ≤ 57) = false) := by
            by_cases h : (48 : Int) ≤ (cn : Int)
            · exact .inr ⟨decide_eq_true h, decide_eq_false (by omega)⟩
            · exact .inl (decide_eq_false h)
          clear c0 c95 c1 c2 c3 hx hcl hv15 hv2
          rcases dd with d1 | ⟨d1, d2⟩
          all_goals
            go_wp2_with (go_at_call 130; (with_reducible refine (LO.out _).mono ?_); rintro e w2 ⟨rfl, hw⟩; obtain rfl := hw.symm; clear hw)
            go_ret2
            exact ⟨⟨.iface 139 (.int .i64 2), by unfold puV; rw [HB.out]; rfl, .inr rfl⟩, O1.out⟩
        · have HB := hide (BAD.out c3)
          have dd : (decide ((48 : Int) ≤ (cn : Int)) = false) ∨ (decide ((48 : Int) ≤ (cn : Int)) = true ∧ decide ((cn : Int) ≤ 57) = false) := by
            by_cases h : (48 : Int) ≤ (cn : Int)
            · exact .inr ⟨decide_eq_true h, decide_eq_false (by omega)⟩
            · exact .inl (decide_eq_false h)
          have gg : (decide ((97 : Int) ≤ lo) = false) ∨ (decide ((97 : Int) ≤ lo) = true ∧ decide (lo ≤ 122) = false) := by
            by_cases h : (97 : Int) ≤ lo
            · exact .inr ⟨decide_eq_true h, decide_eq_false (by omega)⟩
            · exact .inl (decide_eq_false h)
          have n95 : ((cn : Int) == 95) = true ∨ ((cn : Int) == 95) = false := by cases ((cn : Int) == 95) <;> simp
          clear c0 c1 c3 hx hcl hv15 hv2
          rcases gg with g1 | ⟨g1, g2⟩
          all_goals
            rcases dd with d1 | ⟨d1, d2⟩
            all_goals
              rcases n95 with n95 | n95
              all_goals
               go_wp2_with (go_at_call 130; (with_reducible refine (LO.out _).mono ?_); rintro e w2 ⟨rfl, hw⟩; obtain rfl := hw.symm; clear hw)
               go_ret2
               exact ⟨⟨.iface 139 (.int .i64 2), by unfold puV; rw [HB.out]; rfl, .inr rfl⟩, O1.out⟩
      · obtain rfl : j = n := by omega
        have hres : hexP s = v := by
          have e : s.take j = s := List.take_of_length_le (by rw [HN.out]; exact Nat.le_refl _)
          have h1 := hv.out
          have h2 := hall.out
          rw [e] at h1 h2
          rw [h1]
          exact hexP_all (by rw [HN.out]; exact hl) h2
        have HRES := hide hres
        clear hres
        go_wp2_with fail
        go_ret2
        exact ⟨⟨.nilIface, by unfold puV; rw [HRES.out]; rfl, .inl rfl⟩, O1.out⟩
end Go.Proofs.YteblhklclcjonaaGreatDoor
