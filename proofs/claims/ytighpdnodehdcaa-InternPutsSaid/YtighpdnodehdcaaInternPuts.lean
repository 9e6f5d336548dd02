/- The walk of InternPuts. -/
import Derived.Test.YtighpdnodehdcaaInternLaws
namespace Go.Proofs.Ytighpdnodehdcaa
open Go.RowKit

theorem quiet_left {P : Program} {f : FuncId} {args : Array Value} {w : World} {n : Nat} {v : Value}
    (h : Calls P f args (w.drewN n) fun e w' => e = .returned v ∧ w.drewN n = w') : Calls P f args (w.drewN n) fun e w'' => e = .returned v ∧ ∃ m, w'' = w.drewN m :=
  h.mono fun _ _ ⟨he, hw⟩ => ⟨he, n, hw.symm⟩
theorem Names.drewN {w : World} {b : Nat} {xs : List ByteArray} {most : Int} {S : Nat → Prop} (h : Names w b S xs most) (n : Nat) : Names (w.drewN n) b S xs most := h.touch ((Touch.refl (fun _ => False) w).drewN n) (fun _ _ hf => hf)
theorem RdS.drewN {w : World} {F : Nat → Prop} {v : Value} {xs : List ByteArray} (h : RdS w F v xs) (n : Nat) : RdS (w.drewN n) F v xs := h

set_option maxHeartbeats 2000000 in
set_option maxRecDepth 100000 in
theorem walk_InternPuts (most : Int) (v : Value) (l : List ByteArray) (s : ByteArray) (i : Int) (w : World) (_ : (Lit.int .i64 most).wf = true) (hl : RdL w (· < w.heap.size) 1 EStr v l) (hs : s.size ≤ maxLen) (_ : (Lit.int .i64 i).wf = true) :
    Calls Try.prog 4 #[.int .i64 most, v, .string s, .int .i64 i] w fun e w' => e = .returned (.bool true) ∧ Below w.heap.size w w' := by
  obtain ⟨hl, hsz⟩ := hl.parts
  have hrd := hl.rd
  obtain ⟨A, n, c, rfl, _⟩ := id hrd
  obtain ⟨hn, hnc, hcm, hcell⟩ := RdS.at_ hrd
  unfold maxLen at hcm hs
  have HN := hide hn
  clear hn
  by_cases h1 : (60 : Int) < n
  · clear hl hrd hcell
    go_enter Try.func4, Try.ntmps4
    go_wp2_with (go_at_call 9; refine (intern_awake _).mono ?_; rintro e w4 ⟨rfl, hb4⟩)
    go_ret
    exact ⟨rfl, hb4⟩
  by_cases h2 : (1000 : Int) < s.size
  · clear hl hrd hcell
    go_enter Try.func4, Try.ntmps4
    go_wp2_with (go_at_call 9; refine (intern_awake _).mono ?_; rintro e w4 ⟨rfl, hb4⟩)
    go_ret
    exact ⟨rfl, hb4⟩
  clear hl hrd
  have hn60 : n ≤ 60 := by omega
  go_enter Try.func4, Try.ntmps4
  go_wp2_with fail
  refine (names_new' most _).mono ?_
  rintro e w1 ⟨rfl, n1, t1⟩
  go_wp2_with fail
  refine (ref_new most _).mono ?_
  rintro e w2 ⟨rfl, r2, t2⟩
  obtain ⟨M, hM⟩ : ∃ M, M = min (max most 0) 4096 := ⟨_, rfl⟩
  rw [← hM] at n1 r2
  clear hM
  have z1 := t1.size
  have z2 := t2.size
  have n2 := n1.touch t2 (fun _ _ hf => hf)
  have s1 : ∀ k, New (fun _ => False) w w1 k → w.heap.size ≤ k := New.lt (fun _ hf => hf.elim) (Nat.le_refl _)
  have s2 : ∀ k, New (fun _ => False) w1 w2 k → w.heap.size ≤ k := New.lt (fun _ hf => hf.elim) z1
  have dd : ∀ k, New (fun _ => False) w w1 k → New (fun _ => False) w1 w2 k → False := fun k h h' => by rcases h with h | h; exact h; rcases h' with h' | h'; exact h'; omega
  have b2 : Below w.heap.size w w2 := ((t1.below (fun _ _ _ hf => hf) (Nat.le_refl _)).trans (t2.below (B := w.heap.size) (fun _ _ _ hf => hf) z1))
  obtain ⟨S1, hS1⟩ : ∃ S, S = New (fun _ => False) w w1 := ⟨_, rfl⟩
  obtain ⟨S2, hS2⟩ : ∃ S, S = New (fun _ => False) w1 w2 := ⟨_, rfl⟩
  rw [← hS1] at n2 s1 dd
  rw [← hS2] at r2 s2 dd
  obtain ⟨bx, hbx⟩ : ∃ b, b = w1.heap.size := ⟨_, rfl⟩
  obtain ⟨bn, hbn⟩ : ∃ b, b = w.heap.size + 1 := ⟨_, rfl⟩
  simp only [← hbx, ← hbn] at r2 n2 ⊢
  clear hS1 hS2 t1 t2 n1 hbx hbn z1
  go_wp2_with fail
  go_loopw [11] (fun i wr => ∃ (k : Nat) (xs : List ByteArray) (S T : Nat → Prop), k ≤ n ∧ i = .int .i64 k ∧ Names wr bn S xs M ∧ RefNames wr bx T xs M ∧ (∀ j, S j → w.heap.size ≤ j) ∧ (∀ j, T j → w.heap.size ≤ j) ∧ (∀ j, S j → T j → False) ∧ Below w.heap.size w wr) (fun i _ => n - (intOf i).toNat)
  case atStart => exact ⟨0, [], S1, S2, Nat.zero_le _, rfl, n2, r2, s1, s2, dd, b2⟩
  case round =>
    clear b2 n2 r2 s1 s2 dd S1 S2 z2 w1 w2
    obtain ⟨k, xs, S, T, hk, rfl, hN, hR, hS, hT, hD, hB⟩ := hrel
    have hz := hB.size
    by_cases hlt : k < n
    · obtain ⟨b, off, rfl, hbl, hc⟩ := hcell (by omega)
      obtain ⟨x, hx⟩ : ∃ x, l[k]? = some x := ⟨_, List.getElem?_eq_getElem (by rw [← HN.out]; omega)⟩
      have hcx := (hB.cell (p := ⟨b, off + k, none⟩) hbl).trans (hc k x hx)
      have hxs := hsz x (List.mem_of_getElem? hx)
      unfold maxLen at hxs
      clear hcell hc hx
      by_cases hx1 : (1000 : Int) < x.size
      · go_wp2_with (go_at_call 9; refine (intern_awake _).mono ?_; rintro e w4 ⟨rfl, hb4⟩)
        go_ret
        exact ⟨rfl, hB.trans (hb4.mono hz)⟩
      · obtain ⟨⟨a, c', ys⟩, ho⟩ : ∃ p, putOut xs M x = p := ⟨_, rfl⟩
        have HO := hide ho
        clear ho
        go_wp2_with fail
        refine (names_put hN x HO.out).mono ?_
        rintro e w3 ⟨rfl, n3, t3⟩
        have r3 := hR.touch t3 (fun j hj hs => hD j hs hj)
        have b3 := t3.toBelow hS hB hz
        have z3 := t3.size
        have hcx3 := (b3.cell (p := ⟨b, off + k, none⟩) hbl).trans ((hB.cell (p := ⟨b, off + k, none⟩) hbl).symm.trans hcx)
        go_wp2_with fail
        refine (ref_put r3 x HO.out).mono ?_
        rintro e w4 ⟨rfl, r4, t4⟩
        have hD3 : ∀ j, New S wr w3 j → T j → False := fun j h h' => by rcases h with h | h; exact hD j h h'; have := hR.lt j h'; omega
        have n4 := n3.touch t4 (fun j h h' => hD3 j h h')
        have b4 := t4.toBelow hT b3 (Nat.le_trans hz z3)
        have hcx4 := (b4.cell (p := ⟨b, off + k, none⟩) hbl).trans ((hB.cell (p := ⟨b, off + k, none⟩) hbl).symm.trans hcx)
        obtain ⟨⟨v4, hb4, hr4, hv4⟩, _, _, hs4⟩ := id r4
        obtain ⟨A4, m4, rfl, hl4, hm4⟩ := ownsRow_shape hr4
        have c0 := hb4.cell 0
        simp at c0
        have hrd4 : RdS w4 _ _ ys := Rd.of_own hr4
        have hxm : x.size ≤ maxLen := by unfold maxLen; omega
        have hsm : s.size ≤ maxLen := by unfold maxLen; omega
        clear hcx hcx3 hl4 hm4
        go_wp2_with fail
        go_quiet ((first
          | (go_at_call 16; exact quiet_left (names_len' (n4.drewN _)))
          | (go_at_call 13; exact quiet_left (names_find' (n4.drewN _) _ (by assumption)))
          | (go_at_call 17; exact quiet_left (ref_place (hrd4.drewN _) _))))
        go_wp2_with fail
        go_roundw
        case rel => exact ⟨k + 1, ys, _, _, by omega, by go_num, n4.drewN _, r4.touch ((Touch.refl (fun _ => False) _).drewN _) (fun _ _ hf => hf), New.lt hS hz, New.lt hT (Nat.le_trans hz z3), fun j h h' => by
          rcases h' with h' | h'
          · exact hD3 j h h'
          · have := n3.lt j h; omega, ⟨b4.os, b4.tape, b4.output, b4.size, b4.block⟩⟩
        case measure => simp [intOf]; omega
    · clear hcell
      obtain ⟨⟨v4, hb4, hr4, hv4⟩, hb0, hlt4, hs4⟩ := id hR
      obtain ⟨A4, m4, rfl, hl4, hm4⟩ := ownsRow_shape hr4
      unfold maxLen at hm4
      have c0 := hb4.cell 0
      simp at c0
      have hrd4 : RdS wr _ _ xs := Rd.of_own hr4
      by_cases hi : 0 ≤ i ∧ i < xs.length
      · obtain ⟨j, rfl⟩ := Int.eq_ofNat_of_zero_le hi.1
        have hj : j < xs.length := by omega
        have hj' : (j : Int) < xs.length := by omega
        obtain ⟨x, hx⟩ : ∃ x, xs[j]? = some x := ⟨_, List.getElem?_eq_getElem hj⟩
        obtain ⟨_, _, _, hcl⟩ := hrd4.at_
        obtain ⟨b', off', rfl, _, hcj⟩ := hcl (by omega)
        have hcx := hcj j x hx
        have HX := hide hx
        clear hcl hcj hx hi
        go_wp2_with (go_at_call 12; refine (names_text hN j x HX.out).mono ?_; rintro e w' ⟨rfl, rfl⟩)
        have hbx := hb4.lt
        have hbb : b' < wr.heap.size := World.block_lt_of_cell? wr _ hcx
        have hin4 : ∀ k, (Value.slice (some ⟨b', off', none⟩) xs.length m4).ownBlock = some k → k < wr.heap.size := fun k hk => by simp [Value.ownBlock] at hk; subst hk; exact hbb
        go_region_held3 (fun w' => w'.cell? ⟨bx, 0, none⟩ = some (.slice (some ⟨b', off', none⟩) xs.length m4))
          (first | go_keep | assumption)
          (first
            | (go_at_call 19; refine (names_all (hN.touch ((Touch.refl (fun _ => False) _).drew) (fun _ _ hf => hf))).mono ?_; rintro e w5 ⟨A5, c5, rfl, hown5, hbel5⟩; have k5 := (hbel5.cell (p := ⟨bx, 0, none⟩) hbx).trans c0)
            | (go_at_call 18; refine (ref_same (Rd.of_own hown5) (Rd.below (hrd4.drew) hbel5 hin4)).mono ?_; rintro e w6 ⟨rfl, hbel6⟩; have k6 := (hbel6.cell (p := ⟨bx, 0, none⟩) (Nat.lt_of_lt_of_le hbx hbel5.size)).trans k5)
            | (go_at_call 9; refine (intern_awake _).mono ?_; rintro e w7 ⟨rfl, hbel7⟩; have k7 := (hbel7.cell (p := ⟨bx, 0, none⟩) (Nat.lt_of_lt_of_le hbx (Nat.le_trans hbel5.size hbel6.size))).trans k6))
        go_wp2_with fail
        go_ret
        exact ⟨by simp, hB.drew.trans ((Below.mono hbel5 hz).trans ((hbel6.mono (Nat.le_trans hz hbel5.size)).trans (hbel7.mono (Nat.le_trans hz (Nat.le_trans hbel5.size hbel6.size)))))⟩
      · have hlo : ¬ (0 ≤ i ∧ i < (xs.length : Int)) := hi
        have hi' : i < 0 ∨ (xs.length : Int) ≤ i := by omega
        have hbx := hb4.lt
        have hin4 : ∀ k, (Value.slice A4 xs.length m4).ownBlock = some k → k < wr.heap.size := fun k hk => (hr4.lt k hk).2
        clear hi hlo
        by_cases hi0 : 0 ≤ i
        · have hi1 : ¬ i < (xs.length : Int) := by omega
          go_wp2_with (go_at_call 12; refine (names_text_no hN i hi').mono ?_; rintro e w' ⟨rfl, rfl⟩)
          go_region_held3 (fun w' => w'.cell? ⟨bx, 0, none⟩ = some (.slice A4 xs.length m4))
            (first | go_keep | assumption)
            (first
              | (go_at_call 19; refine (names_all (hN.touch ((Touch.refl (fun _ => False) _).drew) (fun _ _ hf => hf))).mono ?_; rintro e w5 ⟨A5, c5, rfl, hown5, hbel5⟩; have k5 := (hbel5.cell (p := ⟨bx, 0, none⟩) hbx).trans c0)
              | (go_at_call 18; refine (ref_same (Rd.of_own hown5) (Rd.below (hrd4.drew) hbel5 hin4)).mono ?_; rintro e w6 ⟨rfl, hbel6⟩; have k6 := (hbel6.cell (p := ⟨bx, 0, none⟩) (Nat.lt_of_lt_of_le hbx hbel5.size)).trans k5)
              | (go_at_call 9; refine (intern_awake _).mono ?_; rintro e w7 ⟨rfl, hbel7⟩; have k7 := (hbel7.cell (p := ⟨bx, 0, none⟩) (Nat.lt_of_lt_of_le hbx (Nat.le_trans hbel5.size hbel6.size))).trans k6))
          go_wp2_with fail
          go_ret
          exact ⟨by simp, hB.drew.trans ((Below.mono hbel5 hz).trans ((hbel6.mono (Nat.le_trans hz hbel5.size)).trans (hbel7.mono (Nat.le_trans hz (Nat.le_trans hbel5.size hbel6.size)))))⟩
        · go_wp2_with (go_at_call 12; refine (names_text_no hN i hi').mono ?_; rintro e w' ⟨rfl, rfl⟩)
          go_region_held3 (fun w' => w'.cell? ⟨bx, 0, none⟩ = some (.slice A4 xs.length m4))
            (first | go_keep | assumption)
            (first
              | (go_at_call 19; refine (names_all (hN.touch ((Touch.refl (fun _ => False) _).drew) (fun _ _ hf => hf))).mono ?_; rintro e w5 ⟨A5, c5, rfl, hown5, hbel5⟩; have k5 := (hbel5.cell (p := ⟨bx, 0, none⟩) hbx).trans c0)
              | (go_at_call 18; refine (ref_same (Rd.of_own hown5) (Rd.below (hrd4.drew) hbel5 hin4)).mono ?_; rintro e w6 ⟨rfl, hbel6⟩; have k6 := (hbel6.cell (p := ⟨bx, 0, none⟩) (Nat.lt_of_lt_of_le hbx hbel5.size)).trans k5)
              | (go_at_call 9; refine (intern_awake _).mono ?_; rintro e w7 ⟨rfl, hbel7⟩; have k7 := (hbel7.cell (p := ⟨bx, 0, none⟩) (Nat.lt_of_lt_of_le hbx (Nat.le_trans hbel5.size hbel6.size))).trans k6))
          go_wp2_with fail
          go_ret
          exact ⟨by simp, hB.drew.trans ((Below.mono hbel5 hz).trans ((hbel6.mono (Nat.le_trans hz hbel5.size)).trans (hbel7.mono (Nat.le_trans hz (Nat.le_trans hbel5.size hbel6.size)))))⟩
end Go.Proofs.Ytighpdnodehdcaa
