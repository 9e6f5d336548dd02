/- The walks of BitsNone and BitsUnites. -/
import Derived.Test.YtighpdnodehdcaaBitsAwake
import Derived.Test.YtighpdnodehdcaaOpen
namespace Go.Proofs.Ytighpdnodehdcaa
set_option linter.unusedVariables false
open Go.RowKit

set_option maxRecDepth 100000 in
theorem or_nil_left {w : World} {b n : Nat} {f : Nat → Bool} {S : Nat → Prop} (h : IsSet w b S n f) :
    Calls Try.prog 22 #[.pointer none, .pointer (some ⟨b, 0, none⟩)] w fun e w' => e = .returned (.bool false) ∧ Below w.heap.size w w' := by
  have H := hide h
  clear h
  go_enter Try.func22, Try.ntmps22
  go_wp2_with fail
  refine (set_room_nil _).mono ?_
  rintro e w' ⟨rfl, rfl⟩
  go_wp2_with fail
  refine (set_words H.out 0 (by omega)).mono ?_
  rintro e w1 ⟨A, c, vs, rfl, hown, hbel, hvl, hvb⟩
  have hl0 : vs.length = 0 := by rw [hvl]; simp
  rw [hl0]
  clear hvl hvb hown hl0
  go_wp2_with fail
  go_loop [5, 13] (fun ch i => ch = .bool false ∧ i = .int .i64 0) (fun _ _ => 0)
  case atStart => exact ⟨rfl, rfl⟩
  case round =>
    obtain ⟨rfl, rfl⟩ := hrel
    go_wp2
    go_ret
    exact ⟨rfl, hbel⟩
set_option maxRecDepth 100000 in
theorem meet_nil_left {w : World} {b n : Nat} {f : Nat → Bool} {S : Nat → Prop} (h : IsSet w b S n f) :
    Calls Try.prog 37 #[.pointer none, .pointer (some ⟨b, 0, none⟩)] w fun e w' => e = .returned (.bool false) ∧ Below w.heap.size w w' := by
  have H := hide h
  clear h
  go_enter Try.func37, Try.ntmps37
  go_wp2_with fail
  refine (set_room_nil _).mono ?_
  rintro e w' ⟨rfl, rfl⟩
  go_wp2_with fail
  refine (set_words H.out 0 (by omega)).mono ?_
  rintro e w1 ⟨A, c, vs, rfl, hown, hbel, hvl, hvb⟩
  have hl0 : vs.length = 0 := by rw [hvl]; simp
  rw [hl0]
  clear hvl hvb hown hl0
  go_wp2_with fail
  go_loop [12] (fun i => i = .int .i64 0) (fun _ => 0)
  case atStart => exact rfl
  case round =>
    obtain rfl := hrel
    go_wp2
    go_ret
    exact ⟨rfl, hbel⟩
theorem same_nil_left {w : World} {b n : Nat} {f : Nat → Bool} {S : Nat → Prop} (h : IsSet w b S n f) (hf : below f n = []) :
    Calls Try.prog 23 #[.pointer none, .pointer (some ⟨b, 0, none⟩)] w fun e w' => e = .returned (.bool true) ∧ Below w.heap.size w w' := by
  have H := hide h
  have HF := hide hf
  clear h hf
  go_enter Try.func23, Try.ntmps23
  go_wp2_with fail
  refine (set_list_nil _).mono ?_
  rintro e w' ⟨rfl, rfl⟩
  go_wp2_with fail
  refine (set_list H.out).mono ?_
  rintro e w2 ⟨A2, c2, rfl, hown2, hb2⟩
  rw [HF.out] at hown2 ⊢
  have heq := equal_ints (w := w2) (F := fun _ => True) (xs := []) (ys := []) (Rd.nil _ _ _) (Rd.of_own hown2)
  have HE := hide heq
  clear heq hown2
  go_wp2_with fail
  refine HE.out.mono ?_
  rintro e w3 ⟨rfl, hb3⟩
  go_wp2_with fail
  go_ret
  exact ⟨rfl, hb2.trans (hb3.mono hb2.size)⟩

set_option maxHeartbeats 4000000 in
set_option maxRecDepth 100000 in
theorem walk_BitsNone (i n : Int) (w : World) (hi : (Lit.int .i64 i).wf = true) (_ : (Lit.int .i64 n).wf = true) :
    Calls Try.prog 8 #[.int .i64 i, .int .i64 n] w fun e w' => e = .returned (.bool true) ∧ Below w.heap.size w w' := by
  obtain ⟨N, hN⟩ : ∃ N, N = (min (max n 0) 4096).toNat := ⟨_, rfl⟩
  have hcase : (n < 0 ∧ N = 0) ∨ (4096 < n ∧ N = 4096) ∨ (0 ≤ n ∧ n ≤ 4096 ∧ n = (N : Int)) := by omega
  have hnb : below noBits N = [] := by unfold below; exact List.filter_eq_nil_iff.2 (fun _ _ => by simp [noBits])
  have HN := hide hN
  have HB := hide hnb
  clear hN hnb
  have go : ∀ (w1 : World), IsSet w1 (w.heap.size + 1) (New (fun _ => False) w w1) N noBits → Below w.heap.size w w1 → True := fun _ _ _ => trivial
  clear go
  rcases hcase with ⟨h1, rfl⟩ | ⟨h1, rfl⟩ | ⟨h0, h1, rfl⟩
  all_goals
    go_enter Try.func8, Try.ntmps8
    go_wp2_with fail
    refine (set_new _ _).mono ?_
    rintro e w1 ⟨rfl, n1, b1⟩
    rw [← HN.out] at n1
    have z1 := b1.size
    go_wp2_with fail
    refine (set_put_nil _ _).mono ?_
    rintro e w' ⟨rfl, rfl⟩
    go_wp2_with fail
    refine (set_drop_nil _ _).mono ?_
    rintro e w' ⟨rfl, rfl⟩
    go_wp2_with fail
    refine (set_has_nil _ _).mono ?_
    rintro e w' ⟨rfl, rfl⟩
    go_wp2_with fail
    refine (or_nil_left n1).mono ?_
    rintro e w2 ⟨rfl, b2⟩
    have n2 := n1.touch (Touch.of_size b2 (fun _ => False)) (fun _ _ hf => hf)
    have z2 := b2.size
    go_wp2_with fail
    refine (meet_nil_left n2).mono ?_
    rintro e w3 ⟨rfl, b3⟩
    have n3 := n2.touch (Touch.of_size b3 (fun _ => False)) (fun _ _ hf => hf)
    have z3 := b3.size
    go_wp2_with fail
    refine (or_nil_right n3).mono ?_
    rintro e w' ⟨rfl, rfl⟩
    go_wp2_with fail
    refine (meet_nil_right n3).mono ?_
    rintro e w' ⟨rfl, rfl⟩
    go_wp2_with fail
    refine (set_count_nil _).mono ?_
    rintro e w' ⟨rfl, rfl⟩
    go_wp2_with fail
    refine (set_room_nil _).mono ?_
    rintro e w' ⟨rfl, rfl⟩
    go_wp2_with fail
    refine (set_list_nil _).mono ?_
    rintro e w' ⟨rfl, rfl⟩
    go_wp2_with fail
    refine (set_next_nil _ _).mono ?_
    rintro e w' ⟨rfl, rfl⟩
    go_wp2_with fail
    refine (set_twin_nil _).mono ?_
    rintro e w' ⟨rfl, rfl⟩
    go_wp2_with fail
    refine (same_nil_left n3 HB.out).mono ?_
    rintro e w4 ⟨rfl, b4⟩
    have n4 := n3.touch (Touch.of_size b4 (fun _ => False)) (fun _ _ hf => hf)
    have z4 := b4.size
    go_wp2_with fail
    refine (set_room n4).mono ?_
    rintro e w' ⟨rfl, rfl⟩
    go_wp2_with fail
    refine (bits_awake _).mono ?_
    rintro e w5 ⟨rfl, b5⟩
    go_wp2_with fail
    go_ret
    exact ⟨by simp, b1.trans ((b2.mono z1).trans ((b3.mono (by omega)).trans ((b4.mono (by omega)).trans (b5.mono (by omega)))))⟩
end Go.Proofs.Ytighpdnodehdcaa
