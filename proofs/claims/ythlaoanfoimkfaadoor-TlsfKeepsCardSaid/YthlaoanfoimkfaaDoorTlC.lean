/- Tlsf: do, all kinds. No condition but what each theorem says. -/
import Derived.Test.YthlaoanfoimkfaaDoorTlB
namespace Go.Proofs.YthlaoanfoimkfaaDoor
open Go.RowKit
set_option linter.unusedVariables false
set_option linter.all false
set_option maxRecDepth 100000
section
variable {w w' : World} {p N base n : Nat}
theorem do3_any (hS : SP base p N n w) (h0 : 0 < base) (hn : n < 70000) (nn q a : Int) (ha : -9223372036854775808 ≤ a ∧ a ≤ 9223372036854775807) (odd : Bool) (wv : Nat) :
    Calls Tryd.prog 8 #[.pointer (some ⟨p, 0, none⟩), stpV 3 nn q a odd wv] w fun e w' => e = .returned (.bool true) ∧ Below base w w' ∧ SP base p N (n + 1) w' := by
  obtain ⟨hE, X, h, g, gb, cap, mb, r, gB, gM, A, c0, B, L, m, M, l, P, hag, hl⟩ := hS
  have hI := P.hp.inv
  have hs := hI.size
  have hbl := hI.blen
  have hk1 := kinds_le hI P.hp.all
  have hor := offV_range (odd := odd) P.sm ha
  obtain ⟨o, ho⟩ : ∃ o, offV l a odd = o := ⟨_, rfl⟩
  have hoff := P.off (by omega) 3 nn q a odd wv
  rw [ho] at hoff hor
  rcases piece_or B o with hnp | ⟨A0, b, C0, hB, hk, rfl⟩
  · refine (do3_walk (f := 6) (S1 := []) (S2 := []) (S3 := []) (J3 := fun _ => True) (J4 := fun _ => True) (by simp) hoff P.slots
      (J1 := fun W => Below base w W ∧ Pr W base p h g gb cap mb r gB gM N A c0 B L m B L M l) (J2 := fun W => Below base w W ∧ Pr W base p h g gb cap mb r gB gM N A c0 B L m B L M l) ?_ ?_ ?_ ?_).mono ?_
    · intro W oW
      obtain ⟨P', b'⟩ := P.keep oW
      exact (free_no P'.hp hnp hor).mono fun e w' ⟨he, hw⟩ => ⟨he, hw ▸ ⟨b', P'⟩⟩
    · exact fun W ⟨b', P'⟩ => ⟨P'.slot0, P'.slot1⟩
    · exact fun W ⟨b', P'⟩ => (dfreeO_no P'.dr (by omega) hI.tile hk1 hnp hor).mono fun e w' ⟨he, hw⟩ => ⟨he, hw ▸ ⟨b', P'⟩⟩
    · exact fun W ⟨b', P'⟩ => ⟨P'.slot0, P'.slot1⟩
    · rintro e w' ⟨he, b', P'⟩
      exact ⟨he, b', hE.below b' h0, X, h, g, gb, cap, mb, r, gB, gM, A, c0, B, L, m, M, l, P', hag, by omega⟩
  · have htile := hI.tile
    have hk0 : ∀ y ∈ A0 ++ C0, y.k ≤ 1 := fun y hy => hk1 y (by rw [hB]; rcases List.mem_append.1 hy with q | q <;> simp [q])
    rw [hB] at hag htile hbl
    have hfu := freeS_used A0 b.at' b.size C0 L
    refine (do3_walk (f := 0) (S1 := []) (S2 := []) (S3 := []) (J3 := fun _ => True) (J4 := fun _ => True) (by simp) hoff P.slots
      (J1 := fun W => Below base w W ∧ ∃ m', Pr W base p h g gb cap mb r gB gM N A c0 (freeS A0 b.at' b.size C0 L).1 (freeS A0 b.at' b.size C0 L).2 m' B L M l ∧ ∀ x, Off (A0 ++ b :: C0) x → (x < b.at' ∨ b.at' + b.size ≤ x) → m' x = m x)
      (J2 := fun W => Below base w W ∧ ∃ gB' m', Pr W base p h g gb cap mb r gB' gM N A c0 (freeS A0 b.at' b.size C0 L).1 (freeS A0 b.at' b.size C0 L).2 m' (freeS A0 b.at' b.size C0 L).1 (freeS A0 b.at' b.size C0 L).2 M l ∧ ∀ x, Off (A0 ++ b :: C0) x → (x < b.at' ∨ b.at' + b.size ≤ x) → m' x = m x) ?_ ?_ ?_ ?_).mono ?_
    · intro W oW
      obtain ⟨P', b'⟩ := P.keep oW
      refine (free_yes (hB ▸ P'.hp) hk).mono ?_
      rintro e w' ⟨he, o2, m', H', fr⟩
      obtain ⟨P2, b2⟩ := P'.hcall o2 H'
      exact ⟨he, b'.trans b2, m', P2, fr⟩
    · exact fun W ⟨b', m', P', fr⟩ => ⟨P'.slot0, P'.slot1⟩
    · rintro W ⟨b', m', P', fr⟩
      refine (dfreeO_yes (hB ▸ P'.dr) htile hs.2.1 (by omega) hk0 (by omega) (fun d => by have := hI.llen d; omega)).mono ?_
      rintro e w' ⟨he, D⟩
      obtain ⟨gB', P2, b2⟩ := P'.rcall D.toDT P.len
      exact ⟨he, b'.trans b2, gB', m', P2, fr⟩
    · exact fun W ⟨b', gB', m', P', fr⟩ => ⟨P'.slot0, P'.slot1⟩
    · rintro e w' ⟨he, b', gB', m', P', fr⟩
      exact ⟨he, b', hE.below b' h0, X, h, g, gb, cap, mb, r, gB', gM, A, c0, _, _, m', M, l, P', ag_free htile hag fr (fun y hy hyk => by
        rcases hfu.2 y hy with q | q
        · exact q
        · omega), by omega⟩
theorem Ag.set {B : List Bk} {m : Nat → Nat} {M M' : List UInt8} {o v : Nat} (h : Ag B m M) (hw : wd M' = upd (wd M) o v) : Ag B (upd m o v) M' := fun b hb hk x h1 h2 h3 => by
  rw [hw]
  unfold upd
  by_cases e : x = o
  · rw [if_pos e, if_pos e]
  · rw [if_neg e, if_neg e]
    exact h b hb hk x h1 h2 h3
theorem in_far {B : List Bk} {a : Int} (h : ∀ b ∈ B, b.at' + b.size ≤ 65536) (ha : a < 0 ∨ 1073741824 < a) : inB B a = false := by
  cases e : inB B a with
  | false => rfl
  | true =>
    obtain ⟨b, hb, h1, h2, h3, h4⟩ := in_has e
    have := h b hb
    omega
theorem do5_any (hS : SP base p N n w) (h0 : 0 < base) (hn : n < 70000) (nn q a : Int) (ha : -9223372036854775808 ≤ a ∧ a ≤ 9223372036854775807) (odd : Bool) {wv : Nat} (hwv : wv < 4294967296) :
    Calls Tryd.prog 8 #[.pointer (some ⟨p, 0, none⟩), stpV 5 nn q a odd wv] w fun e w' => e = .returned (.bool true) ∧ Below base w w' ∧ SP base p N (n + 1) w' := by
  obtain ⟨hE, X, h, g, gb, cap, mb, r, gB, gM, A, c0, B, L, m, M, l, P, hag, hl⟩ := hS
  have hI := P.hp.inv
  have hs := hI.size
  have hbl := hI.blen
  have hMl := P.len
  have hk1 := kinds_le hI P.hp.all
  obtain ⟨s1, s2⟩ := P.lts
  have hbd : ∀ b ∈ B, b.at' + b.size ≤ 65536 := fun b hb => by have := Tile.mem hI.tile b hb; omega
  have sg : ∀ x ∈ [g], x < w.heap.size := fun x hx => s1 x (by simp at hx; simp [hx])
  have sgg : ∀ x ∈ [g, gb], x < w.heap.size := fun x hx => s1 x (by simp at hx; rcases hx with e | e <;> simp [e])
  have sM : ∀ x ∈ [gM], x < w.heap.size := fun x hx => s2 x (by simp at hx; simp [hx])
  have fin : ∀ w', Below base w w' ∧ Pr w' base p h g gb cap mb r gB gM N A c0 B L m B L M l → Below base w w' ∧ SP base p N (n + 1) w' := fun w' ⟨b', P'⟩ => ⟨b', hE.below b' h0, X, h, g, gb, cap, mb, r, gB, gM, A, c0, B, L, m, M, l, P', hag, by omega⟩
  by_cases hfar : a < 0 ∨ 1073741824 < a
  · refine (do5_far (f := 0) (o := offV l a odd) (S1 := [g]) (S2 := []) (S3 := []) (J2 := fun _ => True) (J3 := fun _ => True) (J4 := fun _ => True) sg hfar (P.off (by omega) 5 nn q a odd wv) P.slots (J1 := fun W => Below base w W ∧ Pr W base p h g gb cap mb r gB gM N A c0 B L m B L M l) ?_ ?_).mono fun e w' ⟨he, hj⟩ => ⟨he, fin w' hj⟩
    · intro W oW
      obtain ⟨P', b'⟩ := P.keep oW
      refine (set_out P'.hp (by omega) (in_far hbd hfar) wv).mono ?_
      rintro e w' ⟨he, o2, H'⟩
      obtain ⟨P2, b2⟩ := P'.hread o2 H'
      exact ⟨he, o2, b'.trans b2, P2⟩
    · exact fun W ⟨b', P'⟩ => P'.slot0
  · have hor : ∀ o2, (odd = true → o2 = offV l a odd) → True := fun _ _ => trivial
    have hov : 0 ≤ offV l a odd ∧ offV l a odd ≤ 1073741824 := by
      unfold offV
      split
      · omega
      · rw [List.getD_eq_getElem?_getD]
        cases e : l[a.toNat % l.length]? with
        | none => simp
        | some t =>
          have := P.sm t (List.mem_of_getElem? e)
          simp; omega
    obtain ⟨o2, ho2⟩ : ∃ o2 : Int, o2 = if odd = true then offV l a odd else offV l a odd + nn % 32 := ⟨_, rfl⟩
    have hoff := P.off (by omega) 5 nn q a odd wv
    have ho2b : 0 ≤ o2 ∧ o2 < 1073741900 := by rw [ho2]; split <;> omega
    have hat : odd = false → IntKind.i64.wrap (offV l a odd + bits .and .i64 nn 31) = o2 := fun e => by
      rw [and31, ho2, if_neg (by simp [e]), wraps_i64 _ (by omega) (by omega)]
    -- the contracts at o2
    have IN : ∀ t, inB B o2 = t → ∀ W, Only [] w W → Calls Tryd.prog 33 #[.pointer (some ⟨r, 0, none⟩), .int .i64 o2] W fun e w' => e = .returned (.bool t) ∧ Only [] W w' ∧ (Below base w w' ∧ Pr w' base p h g gb cap mb r gB gM N A c0 B L m B L M l) := fun t ht W oW => by
      obtain ⟨P', b'⟩ := P.keep oW
      refine (din_any P'.dr (by omega) hk1 hI.tile hs.2.1 o2 (by omega)).mono ?_
      rintro e w' ⟨he, o3⟩
      obtain ⟨P2, b2⟩ := P'.keep o3
      exact ⟨by rw [he, ht], o3, b'.trans b2, P2⟩
    cases hin : inB B o2 with
    | false =>
      have GE : ∀ W, (Below base w W ∧ Pr W base p h g gb cap mb r gB gM N A c0 B L m B L M l) → Calls Tryd.prog 9 #[.pointer (some ⟨h, 0, none⟩), .int .i64 o2] W fun e w' => e = .returned (.tuple #[.int .u32 0, .int .i64 2]) ∧ Only [g] W w' ∧ (Below base w w' ∧ Pr w' base p h g gb cap mb r gB gM N A c0 B L m B L M l) := fun W ⟨b', P'⟩ => by
        refine (get_out P'.hp (by omega) hin).mono ?_
        rintro e w' ⟨he, o3, H'⟩
        obtain ⟨P2, b2⟩ := P'.hread o3 H'
        exact ⟨he, o3, b'.trans b2, P2⟩
      have ST : ∀ W, (Below base w W ∧ Pr W base p h g gb cap mb r gB gM N A c0 B L m B L M l) → Calls Tryd.prog 32 #[.pointer (some ⟨h, 0, none⟩), .int .i64 o2, .int .u32 wv] W fun e w' => e = .returned (.int .i64 2) ∧ Only [g] W w' ∧ (Below base w w' ∧ Pr w' base p h g gb cap mb r gB gM N A c0 B L m B L M l) := fun W ⟨b', P'⟩ => by
        refine (set_out P'.hp (by omega) hin wv).mono ?_
        rintro e w' ⟨he, o3, H'⟩
        obtain ⟨P2, b2⟩ := P'.hread o3 H'
        exact ⟨he, o3, b'.trans b2, P2⟩
      have R2 : ∀ W, (Below base w W ∧ Pr W base p h g gb cap mb r gB gM N A c0 B L m B L M l) → (Below base w W.drew ∧ Pr W.drew base p h g gb cap mb r gB gM N A c0 B L m B L M l) ∧ W.cell? ⟨p, 0, none⟩ = some (.pointer (some ⟨h, 0, none⟩)) := fun W ⟨b', P'⟩ => by
        obtain ⟨P2, b2⟩ := P'.keep ((Only.refl [] W).drew)
        exact ⟨⟨b'.trans b2, P2⟩, P'.slot0⟩
      have R1 : ∀ W, (Below base w W ∧ Pr W base p h g gb cap mb r gB gM N A c0 B L m B L M l) → W.cell? ⟨p, 0, none⟩ = some (.pointer (some ⟨h, 0, none⟩)) := fun W ⟨b', P'⟩ => P'.slot0
      cases odd with
      | true =>
        have e2 : offV l a true = o2 := by rw [ho2, if_pos rfl]
        rw [e2] at hoff
        exact (do5_out_true (f := 0) (J4 := fun _ => True) (S1 := []) (S2 := [g]) (S3 := [g]) (odd := true) (by simp) sg sg (by omega) (by omega) hoff P.slots (IN false hin) R1 GE R2 ST R1).mono fun e w' ⟨he, hj⟩ => ⟨he, fin w' hj⟩
      | false =>
        exact (do5_out_false (f := 0) (J4 := fun _ => True) (S1 := []) (S2 := [g]) (S3 := [g]) (odd := false) (by simp) sg sg (by omega) (by omega) (hat rfl) hoff P.slots (IN false hin) R1 GE R2 ST R1).mono fun e w' ⟨he, hj⟩ => ⟨he, fin w' hj⟩
    | true =>
      obtain ⟨pp, rfl⟩ : ∃ pp : Nat, o2 = pp := ⟨o2.toNat, by omega⟩
      obtain ⟨b, hb, hbk, hb1, hb2, hb4⟩ := in_has hin
      have tb := Tile.mem hI.tile b hb
      have R1 : ∀ W, (Below base w W ∧ Pr W base p h g gb cap mb r gB gM N A c0 B L m B L M l) → (Below base w W.drew ∧ Pr W.drew base p h g gb cap mb r gB gM N A c0 B L m B L M l) ∧ W.cell? ⟨p, 1, none⟩ = some (.pointer (some ⟨r, 0, none⟩)) := fun W ⟨b', P'⟩ => by
        obtain ⟨P2, b2⟩ := P'.keep ((Only.refl [] W).drew)
        exact ⟨⟨b'.trans b2, P2⟩, P'.slot1⟩
      have DS : ∀ W, (Below base w W ∧ Pr W base p h g gb cap mb r gB gM N A c0 B L m B L M l) → Calls Tryd.prog 34 #[.pointer (some ⟨r, 0, none⟩), .int .i64 (pp : Nat), .int .u32 wv] W fun e w' => e = .returned (.tuple #[]) ∧ Only [gM] W w' ∧ (Below base w w' ∧ ∃ gB', Pr w' base p h g gb cap mb r gB' gM N A c0 B L m B L (mset M pp wv 4) l) := fun W ⟨b', P'⟩ => by
        refine (dset_any P'.dr (by omega) (o := pp) (by omega) hwv).mono ?_
        rintro e w' ⟨he, o3, D'⟩
        obtain ⟨gB', P2, b2⟩ := P'.rcall ⟨gB, D', o3.mono (by simp), .inl rfl⟩ (by rw [mset_len]; exact hMl)
        exact ⟨he, o3, b'.trans b2, gB', P2⟩
      have R2 : ∀ W, (Below base w W ∧ ∃ gB', Pr W base p h g gb cap mb r gB' gM N A c0 B L m B L (mset M pp wv 4) l) → (Below base w W.drew ∧ ∃ gB', Pr W.drew base p h g gb cap mb r gB' gM N A c0 B L m B L (mset M pp wv 4) l) ∧ W.cell? ⟨p, 0, none⟩ = some (.pointer (some ⟨h, 0, none⟩)) ∧ W.cell? ⟨p, 1, none⟩ = some (.pointer (some ⟨r, 0, none⟩)) := fun W ⟨b', gB', P'⟩ => by
        obtain ⟨P2, b2⟩ := P'.keep ((Only.refl [] W).drew)
        exact ⟨⟨b'.trans b2, gB', P2⟩, P'.slot0, P'.slot1⟩
      have ST : ∀ W, (Below base w W ∧ ∃ gB', Pr W base p h g gb cap mb r gB' gM N A c0 B L m B L (mset M pp wv 4) l) → Calls Tryd.prog 32 #[.pointer (some ⟨h, 0, none⟩), .int .i64 (pp : Nat), .int .u32 wv] W fun e w' => e = .returned (.int .i64 0) ∧ Only [g, gb] W w' ∧ (Below base w w' ∧ ∃ gB', Pr w' base p h g gb cap mb r gB' gM N A c0 B L (upd m pp wv) B L (mset M pp wv 4) l) := fun W ⟨b', gB', P'⟩ => by
        refine (set_in P'.hp hin hwv).mono ?_
        rintro e w' ⟨he, o3, H'⟩
        obtain ⟨P2, b2⟩ := P'.hwrite o3 H'
        exact ⟨he, o3, b'.trans b2, gB', P2⟩
      have R3 : ∀ W, (Below base w W ∧ ∃ gB', Pr W base p h g gb cap mb r gB' gM N A c0 B L (upd m pp wv) B L (mset M pp wv 4) l) → W.cell? ⟨p, 0, none⟩ = some (.pointer (some ⟨h, 0, none⟩)) := fun W ⟨b', gB', P'⟩ => P'.slot0
      have GE : ∀ W, (Below base w W ∧ ∃ gB', Pr W base p h g gb cap mb r gB' gM N A c0 B L (upd m pp wv) B L (mset M pp wv 4) l) → Calls Tryd.prog 9 #[.pointer (some ⟨h, 0, none⟩), .int .i64 (pp : Nat)] W fun e w' => e = .returned (.tuple #[.int .u32 wv, .int .i64 0]) ∧ Only [g] W w' ∧ (Below base w w' ∧ SP base p N (n + 1) w') := fun W ⟨b', gB', P'⟩ => by
        refine (get_in P'.hp hin).mono ?_
        rintro e w' ⟨he, o3, H'⟩
        obtain ⟨P2, b2⟩ := P'.hread o3 H'
        have b3 := b'.trans b2
        have e4 : upd m pp wv pp = wv := by unfold upd; rw [if_pos rfl]
        rw [e4] at he
        exact ⟨he, o3, b3, hE.below b3 h0, X, h, g, gb, cap, mb, r, gB', gM, A, c0, B, L, _, _, l, P2, hag.set (wd_mset (by omega) (by omega) hwv), by omega⟩
      cases odd with
      | true =>
        have e2 : offV l a true = (pp : Int) := by rw [ho2, if_pos rfl]
        rw [e2] at hoff
        exact do5_in_true (f := 0) (S1 := []) (S2 := [gM]) (S3 := [g, gb]) (S4 := [g]) (odd := true) (by simp) sM sgg sg (by omega) (by omega) hoff P.slots (IN true hin) R1 DS R2 ST R3 GE
      | false =>
        exact do5_in_false (f := 0) (S1 := []) (S2 := [gM]) (S3 := [g, gb]) (S4 := [g]) (odd := false) (by simp) sM sgg sg (by omega) (by omega) (hat rfl) hoff P.slots (IN true hin) R1 DS R2 ST R3 GE
end
end Go.Proofs.YthlaoanfoimkfaaDoor
namespace Go.Proofs.YthlaoanfoimkfaaDoor
open Go.RowKit
set_option linter.unusedVariables false
set_option linter.all false
set_option maxRecDepth 100000
/-- Another heap with the same words, behind a bound. -/
def NewH (bd N : Nat) (B : List Bk) (L : Nat → List Nat) (m : Nat → Nat) (h2 : Nat) (W : World) : Prop := ∃ g2 gb2 cap2 mb2, Hp W h2 g2 gb2 cap2 mb2 N B L m ∧ bd ≤ h2 ∧ bd ≤ g2 ∧ bd ≤ gb2 ∧ bd ≤ mb2
theorem NewH.only {bd N : Nat} {B : List Bk} {L : Nat → List Nat} {m : Nat → Nat} {h2 : Nat} {W W' : World} {S : List Nat} (H : NewH bd N B L m h2 W) (o : Only S W W') (hS : ∀ x ∈ S, x < bd) : NewH bd N B L m h2 W' := by
  obtain ⟨g2, gb2, cap2, mb2, H, a1, a2, a3, a4⟩ := H
  exact ⟨g2, gb2, cap2, mb2, H.only o (fun hm => by have := hS _ hm; omega) (fun hm => by have := hS _ hm; omega) (fun hm => by have := hS _ hm; omega) (fun hm => by have := hS _ hm; omega), a1, a2, a3, a4⟩
section
variable {w w' : World} {h g gb cap mb N : Nat} {B : List Bk} {L : Nat → List Nat} {m : Nat → Nat}
theorem alloc1_any (hE : Env w) (g0 : g ≠ 0) (H : Hp w h g gb cap mb N B L m) : Calls Tryd.prog 15 #[.pointer (some ⟨h, 0, none⟩), .int .i64 1] w fun e w' => (∃ x y, e = .returned (.tuple #[.int .i64 x, .int .i64 y])) ∧ Only [g, gb, mb] w w' ∧ ∃ B' L' m', Hp w' h g gb cap mb N B' L' m' := by
  have hI := H.inv
  rcases first_or L hI.high (floor (need 1)) with hno | ⟨c, hc⟩
  · refine (alloc_no H (n := 1) (by omega) (by omega) hno).mono ?_
    rintro e w' ⟨he, o, H'⟩
    exact ⟨⟨_, _, he⟩, o.mono (by simp), _, _, _, H'⟩
  · obtain ⟨A1, b, C1, hB, hk, hd, hcl⟩ := find_has hI hc.2.1
    refine (alloc_yes hE g0 (hB ▸ H) hk (n := 1) (by omega) (by omega) hc hd).mono ?_
    rintro e w' ⟨he, o, m', H', _⟩
    exact ⟨⟨_, _, he⟩, o, _, _, _, H'⟩
theorem free120_any (H : Hp w h g gb cap mb N B L m) : Calls Tryd.prog 16 #[.pointer (some ⟨h, 0, none⟩), .int .i64 120] w fun e w' => (∃ x, e = .returned (.int .i64 x)) ∧ Only [g, gb, mb] w w' ∧ ∃ B' L' m', Hp w' h g gb cap mb N B' L' m' := by
  rcases piece_or B 120 with hnp | ⟨A0, b, C0, hB, hk, hx⟩
  · refine (free_no H hnp (by omega)).mono ?_
    rintro e w' ⟨he, rfl⟩
    exact ⟨⟨_, he⟩, Only.refl _ _, _, _, _, H⟩
  · rw [hx]
    refine (free_yes (hB ▸ H) hk).mono ?_
    rintro e w' ⟨he, o, m', H', _⟩
    exact ⟨⟨_, he⟩, o, _, _, _, H'⟩
end
section
variable {w w' : World} {p N base n : Nat}
theorem do6_any (hS : SP base p N n w) (h0 : 0 < base) (hn : n < 70000) (nn q a : Int) (odd : Bool) (wv : Nat) :
    Calls Tryd.prog 8 #[.pointer (some ⟨p, 0, none⟩), stpV 6 nn q a odd wv] w fun e w' => e = .returned (.bool true) ∧ Below base w w' ∧ SP base p N (n + 1) w' := by
  obtain ⟨hE, X, h, g, gb, cap, mb, r, gB, gM, A, c0, B, L, m, M, l, P, hag, hl⟩ := hS
  obtain ⟨bd, hbd⟩ : ∃ bd, w.heap.size = bd := ⟨_, rfl⟩
  have hgl := P.hp.lt
  have hdl := P.dr.lt
  have hpl := P.pb.lt
  have hbw := P.bw
  have hS : ∀ x ∈ [g, gb, mb], x < bd := fun x hx => by simp at hx; rcases hx with rfl | rfl | rfl <;> omega
  refine (do6_walk (f := 0) (o := offV l a odd) (S1 := []) (S2 := []) (S3 := []) (J1 := fun _ => True) (J2 := fun _ => True) (J3 := fun _ => True) (P.off (by omega) 6 nn q a odd wv) P.slots
    (Q1 := fun h2 W => Below base w W ∧ Pr W base p h g gb cap mb r gB gM N A c0 B L m B L M l ∧ NewH bd N B L m h2 W)
    (Q2 := fun h2 W => Below base w W ∧ (∃ B' L' m', Pr W base p h g gb cap mb r gB gM N A c0 B' L' m' B L M l) ∧ NewH bd N B L m h2 W)
    (Q3 := fun h2 W => Below base w W ∧ (∃ B' L' m', Pr W base p h g gb cap mb r gB gM N A c0 B' L' m' B L M l) ∧ NewH bd N B L m h2 W)
    (J4 := fun W => Below base w W ∧ SP base p N (n + 1) W) ?_ ?_ ?_ ?_ ?_ ?_)
  · intro W oW
    obtain ⟨P', b'⟩ := P.keep oW
    refine (copy_heap P'.hp).mono ?_
    rintro e w' ⟨h2, g2, gb2, cap2, mb2, he, o2, H2, a1, a2, a3, a4⟩
    obtain ⟨P2, b2⟩ := P'.keep o2
    have := oW.size
    exact ⟨h2, he, b'.trans b2, P2, g2, gb2, cap2, mb2, H2, by omega, by omega, by omega, by omega⟩
  · exact fun h2 W ⟨b', P', _⟩ => P'.slot0
  · rintro h2 W ⟨b', P', hn2⟩
    refine (alloc1_any (hE.below b' h0) P'.g0 P'.hp).mono ?_
    rintro e w' ⟨he, o2, B', L', m', H'⟩
    obtain ⟨P2, b2⟩ := P'.hcall o2 H'
    exact ⟨he, b'.trans b2, ⟨B', L', m', P2⟩, hn2.only o2 hS⟩
  · exact fun h2 W ⟨b', ⟨B', L', m', P'⟩, _⟩ => P'.slot0
  · rintro h2 W ⟨b', ⟨B1, L1, m1, P'⟩, hn2⟩
    refine (free120_any P'.hp).mono ?_
    rintro e w' ⟨he, o2, B', L', m', H'⟩
    obtain ⟨P2, b2⟩ := P'.hcall o2 H'
    exact ⟨he, b'.trans b2, ⟨B', L', m', P2⟩, hn2.only o2 hS⟩
  · rintro h2 W ⟨b', ⟨B1, L1, m1, P'⟩, hn2⟩
    refine ⟨P'.slot0, P'.pb.frozen 0, ?_⟩
    obtain ⟨W', hW'⟩ : ∃ W', W.setCell ⟨p, 0, none⟩ (.pointer (some ⟨h2, 0, none⟩)) = W' := ⟨_, rfl⟩
    have o3 : Only [p] W W' := hW' ▸ (Only.refl [p] W).setCell (p := ⟨p, 0, none⟩) (.inl (by simp)) _
    have pb3 : Blk W' p 31 #[.pointer (some ⟨h2, 0, none⟩), .pointer (some ⟨r, 0, none⟩), .slice A l.length c0] := by
      have := P'.pb.set_ 0 (.pointer (some ⟨h2, 0, none⟩))
      rw [hW'] at this
      simpa using this
    rw [hW']
    obtain ⟨⟨p1, p2, p3, p4, p5, p6, p7⟩, ⟨r1, r2, r3, r4⟩, ⟨b1, b2, b3, b4⟩, ⟨m1, m2, m3⟩, f5⟩ := P'.far
    have hge := P'.ge
    have b3' := b'.trans (o3.to (n := base) (by simp; omega) P'.bw)
    obtain ⟨g2, gb2, cap2, mb2, H2, a1, a2, a3, a4⟩ := hn2.only o3 (by simp; omega)
    have hrow : W'.ownsRow base 3 1 (.slice A l.length c0) l.length (NV l) := own_only' P'.own o3 (fun k hk => by simp; exact fun e => (f5 k hk).1 e)
    have D3 : Dr W' r gB gM B L M := P'.dr.only o3 (by simp; exact p5.symm) (by simp; exact p6.symm) (by simp; exact p7.symm) (NoRow.of P'.pb (by decide))
    exact ⟨b3', hE.below b3' h0, X, h2, g2, gb2, cap2, mb2, r, gB, gM, A, c0, B, L, m, M, l,
      ⟨pb3, hrow, P'.px, H2, D3, P'.len, by omega, by omega, by omega, Nat.le_trans P'.bw o3.size, P'.sm⟩, hag, by omega⟩
theorem do_none (hS : SP base p N n w) (h0 : 0 < base) (hn : n < 70000) (k nn q a : Int) (hk : k ≠ 1 ∧ k ≠ 2 ∧ k ≠ 3 ∧ k ≠ 4 ∧ k ≠ 5 ∧ k ≠ 6) (odd : Bool) (wv : Nat) :
    Calls Tryd.prog 8 #[.pointer (some ⟨p, 0, none⟩), stpV k nn q a odd wv] w fun e w' => e = .returned (.bool true) ∧ Below base w w' ∧ SP base p N (n + 1) w' := by
  obtain ⟨hE, X, h, g, gb, cap, mb, r, gB, gM, A, c0, B, L, m, M, l, P, hag, hl⟩ := hS
  refine do_other (f := 0) (S1 := []) (S2 := []) (S3 := []) (J2 := fun _ => True) (J3 := fun _ => True) (J4 := fun _ => True) hk (P.off (by omega) k nn q a odd wv) P.slots (J1 := fun W => Below base w W ∧ SP base p N (n + 1) W) ?_
  intro W oW
  obtain ⟨P', b'⟩ := P.keep oW
  exact ⟨b', hE.below b' h0, X, h, g, gb, cap, mb, r, gB, gM, A, c0, B, L, m, M, l, P', hag, by omega⟩
/-- One step of the law. -/
theorem do_any (hS : SP base p N n w) (h0 : 0 < base) (hn : n < 70000) (k nn q a : Int) (hq : -9223372036854775808 ≤ q ∧ q ≤ 9223372036854775807) (ha : -9223372036854775808 ≤ a ∧ a ≤ 9223372036854775807) (odd : Bool) {wv : Nat} (hwv : wv < 4294967296) :
    Calls Tryd.prog 8 #[.pointer (some ⟨p, 0, none⟩), stpV k nn q a odd wv] w fun e w' => e = .returned (.bool true) ∧ Below base w w' ∧ SP base p N (n + 1) w' := by
  by_cases e1 : k = 1
  · subst e1; exact do1_any hS h0 hn nn q a odd wv
  by_cases e2 : k = 2
  · subst e2; exact do2_any hS h0 hn nn q a hq odd wv
  by_cases e3 : k = 3
  · subst e3; exact do3_any hS h0 hn nn q a ha odd wv
  by_cases e4 : k = 4
  · subst e4; exact do4_any hS h0 hn nn q a ha odd wv
  by_cases e5 : k = 5
  · subst e5; exact do5_any hS h0 hn nn q a ha odd hwv
  by_cases e6 : k = 6
  · subst e6; exact do6_any hS h0 hn nn q a odd wv
  exact do_none hS h0 hn k nn q a ⟨e1, e2, e3, e4, e5, e6⟩ odd wv
end
end Go.Proofs.YthlaoanfoimkfaaDoor
