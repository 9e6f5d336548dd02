/- The law LeastLong: the walk. -/
import Derived.Test.YtejjaabkbkkjlaaLeastPlain3
import Derived.Test.YtejjaabkbkkjlaaGrow
import Derived.Laws.IdiomStrings
namespace Go.Proofs.Ytejjaabkbkkjlaa
set_option linter.unusedVariables false
open Go.RowKit
attribute [local irreducible] wpStill wpOne wpPh
theorem long_conv (w : World) (a : Nat) (ha : a < 7) :
    (convert 53 9 (.slice (some ⟨w.heap.size, 0, none⟩) 2 2)).run Try.prog (w.alloc (.cells #[.int .u8 110, .int .u8 (97 + (a : Int))] 5)) = .ok (.string (longN a)) (w.alloc (.cells #[.int .u8 110, .int .u8 (97 + (a : Int))] 5)) := by
  refine run_convert_bytes_back _ _ _ _ ⟨w.heap.size, 0, none⟩ 2 [110, UInt8.ofNat (97 + a)] Try.underlying53 Try.underlying5 Try.underlying9 fun j hj => ?_
  rw [add_none, (Blk.new w 5 _).cell]
  have hu : (UInt8.ofNat (97 + a)).toNat = 97 + a := by simp; omega
  have hj2 : j = 0 ∨ j = 1 := by simp at hj; omega
  rcases hj2 with rfl | rfl
  · rfl
  · simp only [List.getElem_cons_succ, List.getElem_cons_zero, hu]
    rw [Int.natCast_add]
    rfl

set_option maxRecDepth 100000 in
set_option maxHeartbeats 4000000 in
theorem walk_LeastLong (n k : Int) (w : World) (hn : (Lit.int .u8 n).wf = true) (hk : (Lit.int .u8 k).wf = true) :
    Calls Try.prog 8 #[.int .u8 n, .int .u8 k] w (Quiet w (.bool true)) := by
  have h0 : IntKind.u8.min = 0 := rfl
  have h1 : IntKind.u8.max = 255 := rfl
  simp only [Lit.wf, Bool.and_eq_true, decide_eq_true_eq] at hn hk
  obtain ⟨n, rfl⟩ := Int.eq_ofNat_of_zero_le (a := n) (by omega)
  obtain ⟨k, rfl⟩ := Int.eq_ofNat_of_zero_le (a := k) (by omega)
  have hn' : n ≤ 255 := by omega
  have hk' : k ≤ 255 := by omega
  clear hn hk h0 h1
  obtain ⟨D, hD⟩ : ∃ D : Nat, (n : Int) % 7 + 1 = D := ⟨n % 7 + 1, by omega⟩
  obtain ⟨M, hM⟩ : ∃ M : Nat, (k : Int) % 8 + 1 = M := ⟨k % 8 + 1, by omega⟩
  have hD1 : 1 ≤ D := by omega
  have hD7 : D ≤ 7 := by omega
  have hM1 : 1 ≤ M := by omega
  have hM8 : M ≤ 8 := by omega
  have hg0 : Grow ((w.alloc (.cells #[.string ⟨#[65]⟩] 9)).alloc (.cells #[.slice (some ⟨w.heap.size, 0, none⟩) 1 1, .slice none 0 0, .slice none 0 0, .int .i64 2] 25)) w.heap.size (w.heap.size + 1) (.slice (some ⟨w.heap.size, 0, none⟩) 1 1) (.slice none 0 0) (.slice none 0 0) 2 [⟨#[65]⟩] [] [] := by
    refine ⟨?_, ?_, World.ownsRow_nil _ _ _ _, World.ownsRow_nil _ _ _ _, fun p hp => absurd hp (by simp), fun k hk => by simp [Value.ownBlock]⟩
    · have := Blk.new (w.alloc (.cells #[.string ⟨#[65]⟩] 9)) 25 #[.slice (some ⟨w.heap.size, 0, none⟩) 1 1, .slice none 0 0, .slice none 0 0, .int .i64 2]
      simpa using this
    · exact ⟨rfl, .inr ⟨w.heap.size, 1, #[.string ⟨#[65]⟩], rfl, Nat.le_refl _, (Blk.new w 9 #[.string ⟨#[65]⟩]).alloc _, Nat.le_refl _, by decide, rfl, rfl⟩⟩
  have hb0 : Below w.heap.size w ((w.alloc (.cells #[.string ⟨#[65]⟩] 9)).alloc (.cells #[.slice (some ⟨w.heap.size, 0, none⟩) 1 1, .slice none 0 0, .slice none 0 0, .int .i64 2] 25)) := ((Below.refl _ w).alloc (Nat.le_refl _) _).alloc (by simp) _
  have Xhg0 := hide hg0
  have Xhb0 := hide hb0
  have XhD := hide hD
  have XhM := hide hM
  clear hg0 hb0 hD hM
  go_enter Try.func8, Try.ntmps8
  go_wp2_with fail
  rw [XhD.out, XhM.out]
  clear XhD XhM
  have hsz : w.heap.size ≤ ((w.alloc (.cells #[.string ⟨#[65]⟩] 9)).alloc (.cells #[.slice (some ⟨w.heap.size, 0, none⟩) 1 1, .slice none 0 0, .slice none 0 0, .int .i64 2] 25)).heap.size := Xhb0.out.size
  generalize hz : w.heap.size = z at *
  go_loopw [8] (fun i wr => ∃ (a : Nat) (A1 : Option Addr) (c1 : Nat) (A2 : Option Addr) (c2 : Nat) (rvs : List ((Int × List Int) × Value)), a ≤ D ∧ i = .int .i64 a ∧ rvs.map (·.1) = (List.range a).map (longR D M) ∧ Grow wr z (z + 1) (.slice (some ⟨z, 0, none⟩) 1 1) (.slice A1 a c1) (.slice A2 a c2) 2 [⟨#[65]⟩] ((List.range a).map longN) rvs ∧ Below z w wr ∧ z ≤ wr.heap.size) (fun i _ => D - (intOf i).toNat)
  case atStart => exact ⟨0, none, 0, none, 0, [], Nat.zero_le _, rfl, rfl, Xhg0.out, Xhb0.out, hsz⟩
  case round =>
    clear Xhg0 Xhb0 hsz
    obtain ⟨a, A1, c1, A2, c2, rvs, ha, rfl, hvs, g, hb, hzr⟩ := hrel
    obtain ⟨q0, q1, q2, q3⟩ := g.box
    have Xg := hide g
    have Xhb := hide hb
    have Xhvs := hide hvs
    clear g hb hvs
    by_cases hlt : a < D
    · have hlt' : (a : Int) < (D : Int) := by omega
      have hconv := long_conv wr a (by omega)
      have b1 : Below wr.heap.size wr ((wr.alloc (.cells #[.int .u8 110, .int .u8 (97 + (a : Int))] 5)).alloc (.cells #[.string (longN a)] 9)) := ((Below.refl _ wr).alloc (Nat.le_refl _) _).alloc (by simp) _
      have g1 := Xg.out.below b1
      have hn1 := g1.n
      rw [show ((List.range a).map longN).length = a by simp] at hn1
      have r1 : Rd ((wr.alloc (.cells #[.int .u8 110, .int .u8 (97 + (a : Int))] 5)).alloc (.cells #[.string (longN a)] 9)) (fun _ => True) (.slice (some ⟨wr.heap.size + 1, 0, none⟩) 1 1) 1 [.string (longN a)] := by
        have := Rd.one (w := wr.alloc (.cells #[.int .u8 110, .int .u8 (97 + (a : Int))] 5)) (e := 9) [.string (longN a)] 1 rfl
        simpa using this
      have Xb1 := hide b1
      have Xg1 := hide g1
      clear b1 g1
      go_wp2_with (at_builtin; refine wp_append _ rfl (.tmp 32) (.tmp 38) _ rfl Try.elemStr z _ a (((List.range a).map longN).map Value.string) rfl hn1 _ _ [.string (longN a)] 1 rfl rfl r1 (by simp [Value.oneCell']) (by unfold maxLen; omega) (by omega) (by simp; omega) ?_)
      intro A' c' w2 hown2 hg2 hob2
      have hn2 : Below z w w2 := (Xhb.out.trans (Xb1.out.mono hzr)).grown hg2 (Nat.le_trans hzr Xb1.out.size) (fun q hq => (hn1.lt q hq).1)
      have g2 := Xg1.out.addN hg2 (by rw [show ((List.range a).map longN).length = a by simp, List.map_map]; exact hown2) (hob2.imp id fun e => by rw [e]; simp)
      have hb2 : Blk w2 (z + 1) 25 _ := Xg1.out.blk.grown hg2 (fun e => Xg1.out.rows.2.1 e.symm)
      have hc2 := (hb2.cell 1).trans rfl
      have hf2 := hb2.frozen 1
      rw [show (List.range a).map longN ++ [longN a] = (List.range (a + 1)).map longN by rw [List.range_succ, List.map_append]; rfl] at g2
      have hn3 : Below z w (w2.setCell ⟨z + 1, 1, none⟩ (.slice A' (a + 1) c')) := hn2.setCell (by simp) _
      clear hown2 hg2 hob2 hn1 r1 hconv q0 q1 q2 q3 Xg1 Xb1 hb2 hn2
      go_upto_region 7 with fail
      obtain ⟨w3, hw3⟩ : ∃ q, q = w2.setCell ⟨z + 1, 1, none⟩ (.slice A' (a + 1) c') := ⟨_, rfl⟩
      rw [← hw3] at g2 hn3 ⊢
      clear hw3 hc2 hf2
      have hz3 : z ≤ w3.heap.size := Nat.le_of_lt (Nat.lt_trans (by omega) g2.blk.lt)
      have hk0 : Blk (w3.alloc (.cells #[.int .i64 (2 + (a : Int)), .slice none 0 0] 30)) w3.heap.size 30 #[.int .i64 (2 + (a : Int)), .slice none 0 0] := Blk.new w3 _ _
      have hb30 : Below w3.heap.size w3 (w3.alloc (.cells #[.int .i64 (2 + (a : Int)), .slice none 0 0] 30)) := (Below.refl _ _).alloc (Nat.le_refl _) _
      have hs30 : w3.heap.size + 1 ≤ (w3.alloc (.cells #[.int .i64 (2 + (a : Int)), .slice none 0 0] 30)).heap.size := by simp
      have Xg2 := hide g2
      have Xhn3 := hide hn3
      have Xhk0 := hide hk0
      have Xhb30 := hide hb30
      clear g2 hn3 hk0 hb30
      go_wp2_with fail
      generalize hy : w3.heap.size = y at *
      go_loopw [10] (fun j wr => ∃ (m : Nat) (A : Option Addr) (c : Nat), m ≤ M ∧ j = .int .i64 m ∧ Blk wr y 30 #[.int .i64 (2 + (a : Int)), .slice A m c] ∧ wr.ownsRow (y + 1) 3 1 (.slice A m c) m ((List.replicate m (longT D a)).map I64) ∧ Below y w3 wr ∧ y + 1 ≤ wr.heap.size) (fun j _ => M - (intOf j).toNat)
      case atStart => exact ⟨0, none, 0, Nat.zero_le _, rfl, Xhk0.out, World.ownsRow_nil _ _ _ _, Xhb30.out, hs30⟩
      case round =>
        clear Xhk0 Xhb30 hs30
        obtain ⟨m, A, c, hm, rfl, hk, ho, hb3, hs3⟩ := hrel
        have e0 := (hk.cell 0).trans rfl
        have e1 := (hk.cell 1).trans rfl
        by_cases hmm : m < M
        · have hmm' : (m : Int) < (M : Int) := by omega
          have hb4 : ∀ us, Below wr.heap.size wr (wr.alloc (.cells us 3)) := fun us => (Below.refl _ _).alloc (Nat.le_refl _) _
          have ho4 : ∀ us, (wr.alloc (.cells us 3)).ownsRow (y + 1) 3 1 (.slice A m c) m ((List.replicate m (longT D a)).map I64) := fun us => own_below' ho (hb4 us)
          have hk4 : ∀ us, Blk (wr.alloc (.cells us 3)) y 30 #[.int .i64 (2 + (a : Int)), .slice A m c] := fun us => hk.alloc _
          have r4 : ∀ x, Rd (wr.alloc (.cells #[I64 x] 3)) (fun _ => True) (.slice (some ⟨wr.heap.size, 0, none⟩) 1 1) 1 [I64 x] := fun x => Rd.one (w := wr) (e := 3) [I64 x] 1 rfl
          have fin : ∀ us (A' : Option Addr) (c' : Nat) (w5 : World), w5.ownsRow (y + 1) 3 1 (.slice A' (m + 1) c') (m + 1) ((List.replicate m (longT D a)).map I64 ++ [I64 (longT D a)]) → (wr.alloc (.cells us 3)).grownBy w5 (Value.slice A m c).ownBlock →
              (w5.cell? ⟨y, 1, none⟩ = some (.slice A m c) ∧ w5.frozen? ⟨y, 1, none⟩ = false) ∧ Blk (w5.setCell ⟨y, 1, none⟩ (.slice A' (m + 1) c')) y 30 #[.int .i64 (2 + (a : Int)), .slice A' (m + 1) c'] ∧ (w5.setCell ⟨y, 1, none⟩ (.slice A' (m + 1) c')).ownsRow (y + 1) 3 1 (.slice A' (m + 1) c') (m + 1) ((List.replicate (m + 1) (longT D a)).map I64) ∧ Below y w3 (w5.setCell ⟨y, 1, none⟩ (.slice A' (m + 1) c')) ∧ y + 1 ≤ (w5.setCell ⟨y, 1, none⟩ (.slice A' (m + 1) c')).heap.size := fun us A' c' w5 h1 h2 => by
            have hk5 := (hk4 us).grown h2 (fun e => by have := ((ho4 us).lt _ e.symm).1; omega)
            have hb5 : Below y w3 w5 := ((hb3.alloc (by omega) _).grown h2 (by simp; omega) (fun q hq => by have := ((ho4 us).lt q hq).1; omega))
            refine ⟨⟨(hk5.cell 1).trans rfl, hk5.frozen 1⟩, hk5.put 1 _, ?_, hb5.setCell (Nat.le_refl _) _, ?_⟩
            · rw [List.replicate_succ', List.map_append]
              exact own_far h1 (fun e => by have := (h1.lt _ e).1; simp at this; omega) _
            · have := h2.size
              simp [World.setCell] at this ⊢
              omega
          by_cases hd : a + 1 = D
          · have hd' : ((a : Int) == (D : Int) - 1) = true := by simp; omega
            have ht : longT D a = 1 := if_pos hd
            rw [ht] at ho4 fin
            have Xfin := hide fin
            have Xhk := hide hk
            have Xho := hide ho
            have Xhb3 := hide hb3
            have Xhk4 := hide hk4
            have Xhb4 := hide hb4
            have Xhd := hide hd
            have Xht := hide ht
            clear fin hk ho hb3 hk4 hb4 hd ht
            go_wp2_with (at_builtin; refine wp_append _ rfl (.tmp 54) (.tmp 55) _ rfl Try.elemInt (y + 1) _ m ((List.replicate m 1).map I64) rfl (ho4 _) _ _ [I64 1] 1 rfl rfl (r4 1) (by simp [Value.oneCell']) (by unfold maxLen; omega) (by omega) (by simp; omega) ?_)
            intro A5 c5 w5 h5 g5 _
            obtain ⟨⟨p1, p2⟩, k5, o5, b5, s5⟩ := Xfin.out _ _ _ w5 (by rw [List.map_replicate]; exact h5) g5
            clear Xfin h5 g5 e0 e1
            have Xk5 := hide k5
            have Xo5 := hide o5
            have Xb5 := hide b5
            clear k5 o5 b5
            go_wp2_with fail
            go_roundw
            case rel => exact ⟨m + 1, A5, c5, by omega, by go_num, Xk5.out, by rw [Xht.out]; exact Xo5.out, Xb5.out, s5⟩
            case measure => simp [intOf]; omega
          · have hd' : ((a : Int) == (D : Int) - 1) = false := by simp; omega
            have ht : longT D a = 3 + (a : Int) := (if_neg hd).trans (Int.add_comm _ _)
            rw [ht] at ho4 fin
            have Xfin := hide fin
            have Xhk := hide hk
            have Xho := hide ho
            have Xhb3 := hide hb3
            have Xhk4 := hide hk4
            have Xhb4 := hide hb4
            have Xhd := hide hd
            have Xht := hide ht
            clear fin hk ho hb3 hk4 hb4 hd ht
            go_wp2_with (at_builtin; refine wp_append _ rfl (.tmp 59) (.tmp 62) _ rfl Try.elemInt (y + 1) _ m ((List.replicate m (3 + (a : Int))).map I64) rfl (ho4 _) _ _ [I64 (3 + (a : Int))] 1 rfl rfl (r4 (3 + (a : Int))) (by simp [Value.oneCell']) (by unfold maxLen; omega) (by omega) (by simp; omega) ?_)
            intro A5 c5 w5 h5 g5 _
            obtain ⟨⟨p1, p2⟩, k5, o5, b5, s5⟩ := Xfin.out _ _ _ w5 (by rw [List.map_replicate]; exact h5) g5
            clear Xfin h5 g5 e0 e1
            have Xk5 := hide k5
            have Xo5 := hide o5
            have Xb5 := hide b5
            clear k5 o5 b5
            go_wp2_with fail
            go_roundw
            case rel => exact ⟨m + 1, A5, c5, by omega, by go_num, Xk5.out, by rw [Xht.out]; exact Xo5.out, Xb5.out, s5⟩
            case measure => simp [intOf]; omega
        · have hmM : m = M := by omega
          subst hmM
          have gr := Xg2.out.below (by rw [hy]; exact hb3)
          obtain ⟨q0, q1, q2, q3⟩ := gr.box
          have hlen : rvs.length = a := by have := congrArg List.length Xhvs.out; simpa using this
          have b6 : Below wr.heap.size wr (wr.alloc (.cells #[.int .i64 (2 + (a : Int)), .slice A m c] 30)) := (Below.refl _ _).alloc (Nat.le_refl _) _
          have g6 := gr.below b6
          have hr6 := g6.r
          rw [hlen] at hr6
          have r6 : Rd (wr.alloc (.cells #[.int .i64 (2 + (a : Int)), .slice A m c] 30)) (fun _ => True) (.slice (some ⟨wr.heap.size, 0, none⟩) 1 1) 2 [.int .i64 (2 + (a : Int)), .slice A m c] := Rd.one (w := wr) (e := 30) [.int .i64 (2 + (a : Int)), .slice A m c] 2 rfl
          have hu6 : (wr.alloc (.cells #[.int .i64 (2 + (a : Int)), .slice A m c] 30)).ownsRow z 3 1 (.slice A m c) (List.replicate m (longT D a)).length ((List.replicate m (longT D a)).map I64) := by
            rw [List.length_replicate]
            exact ownsRow_base (own_below' ho b6) (fun k hk => by have := (ho.lt k hk).1; omega)
          have bz6 : Below z w (wr.alloc (.cells #[.int .i64 (2 + (a : Int)), .slice A m c] 30)) := (Xhn3.out.trans (hb3.mono (by omega))).alloc (by omega) _
          have sz6 : z ≤ (wr.alloc (.cells #[.int .i64 (2 + (a : Int)), .slice A m c] 30)).heap.size := by simp; omega
          have fin : ∀ (A7 : Option Addr) (c7 : Nat) (w7 : World), w7.ownsRow z 30 2 (.slice A7 (a + 1) c7) (a + 1) (flatR rvs ++ [.int .i64 (2 + (a : Int)), .slice A m c]) → (wr.alloc (.cells #[.int .i64 (2 + (a : Int)), .slice A m c] 30)).grownBy w7 (Value.slice A2 a c2).ownBlock →
              (w7.cell? ⟨z + 1, 2, none⟩ = some (.slice A2 a c2) ∧ w7.frozen? ⟨z + 1, 2, none⟩ = false) ∧ Grow (w7.setCell ⟨z + 1, 2, none⟩ (.slice A7 (a + 1) c7)) z (z + 1) (.slice (some ⟨z, 0, none⟩) 1 1) (.slice A' (a + 1) c') (.slice A7 (a + 1) c7) 2 [⟨#[65]⟩] ((List.range (a + 1)).map longN) (rvs ++ [((2 + (a : Int), List.replicate m (longT D a)), .slice A m c)]) ∧ Below z w (w7.setCell ⟨z + 1, 2, none⟩ (.slice A7 (a + 1) c7)) ∧ z ≤ (w7.setCell ⟨z + 1, 2, none⟩ (.slice A7 (a + 1) c7)).heap.size := fun A7 c7 w7 h7 g7 => by
            have hk7 := g6.blk.grown g7 (fun e => g6.rows.2.2.1 e.symm)
            have hb7 := bz6.grown g7 sz6 (fun q hq => (hr6.lt q hq).1)
            refine ⟨⟨(hk7.cell 2).trans rfl, hk7.frozen 2⟩, g6.addR g7 (by rw [hlen]; exact h7) hu6, hb7.setCell (by simp) _, ?_⟩
            have := g7.size
            simp [World.setCell] at this ⊢
            omega
          have hvs' : (rvs ++ [((2 + (a : Int), List.replicate m (longT D a)), Value.slice A m c)]).map (·.1) = (List.range (a + 1)).map (longR D m) := by
            rw [List.map_append, Xhvs.out, List.range_succ, List.map_append]
            unfold longR
            simp [Int.add_comm]
          have e0 := (hk.cell 0).trans rfl
          have e1 := (hk.cell 1).trans rfl
          have Xg6 := hide g6
          have Xfin := hide fin
          have Xhvs' := hide hvs'
          have Xbz6 := hide bz6
          have Xhu6 := hide hu6
          have Xhb3 := hide hb3
          have Xhk := hide hk
          have Xho := hide ho
          have Xgr := hide gr
          have Xb6 := hide b6
          clear g6 fin hvs' bz6 hu6 hb3 hk ho gr b6
          go_wp2_with (at_builtin; refine wp_append _ rfl (.tmp 66) (.tmp 68) _ rfl Try.elemRule z _ a (flatR rvs) rfl hr6 _ _ [.int .i64 (2 + (a : Int)), .slice A m c] 1 rfl rfl r6 (by simp [Value.oneCell']) (by unfold maxLen; omega) (by omega) (by simp; omega) ?_)
          intro A7 c7 w7 h7 g7 _
          obtain ⟨⟨p1, p2⟩, k7, b7, s7⟩ := Xfin.out A7 c7 w7 h7 g7
          clear Xfin h7 g7 e0 e1 q0 q1 q2 q3
          have Xk7 := hide k7
          have Xb7 := hide b7
          clear k7 b7
          go_wp2_with fail
          go_roundw
          case rel => exact ⟨a + 1, A', c', A7, c7, _, by omega, by go_num, Xhvs'.out, Xk7.out, Xb7.out, s7⟩
          case measure => simp [intOf]; omega
    · have haD : a = D := by omega
      subst haD
      have gr := Xg.out
      have hvs := Xhvs.out
      have hlen : rvs.length = a := by have := congrArg List.length hvs; simpa using this
      have gram := gr.gram (by simp; omega) ⟨fun s hs => by rw [List.mem_singleton.1 hs]; show 1 ≤ 140737488351232; omega, fun s hs => by obtain ⟨i, _, rfl⟩ := List.mem_map.1 hs; show 2 ≤ 140737488351232; omega⟩ (fun p hp => by
        have : p.1 ∈ rvs.map (·.1) := List.mem_map.2 ⟨p, hp, rfl⟩
        rw [hvs] at this
        obtain ⟨i, hi, e⟩ := List.mem_map.1 this
        rw [List.mem_range] at hi
        rw [← e]
        unfold longR
        refine ⟨by simp only; omega, by simp; omega, fun x hx => ?_⟩
        rw [List.eq_of_mem_replicate hx]
        unfold longT
        split <;> omega) 2
      rw [hvs] at gram
      have gram : IsGram wr (fun b => z ≤ b ∧ b < wr.heap.size) (.slice (some ⟨z, 0, none⟩) 1 1) (.slice A1 a c1) (.slice A2 a c2) (longG a M) := gram
      have cL := least_of gram 2
      have hpow : ∀ j, j < a → M ^ j * M ≤ 2097152 := fun j hj => by
        rw [← Nat.pow_succ]
        calc M ^ (j + 1) ≤ 8 ^ (j + 1) := Nat.pow_le_pow_left hM8 _
          _ ≤ 8 ^ 7 := Nat.pow_le_pow_right (by omega) (by omega)
          _ = 2097152 := by decide
      clear hlen gram gr hvs
      have XcL := hide cL
      have Xhpow := hide hpow
      clear cL hpow
      clear Xg Xhvs
      go_wp2_with fail
      go_loopw [11, 12] (fun wt i wq => ∃ (j : Nat), j ≤ a ∧ i = .int .i64 j ∧ wt = .int .i64 ((M ^ j : Nat) : Int) ∧ wq = wr) (fun _ i _ => a - (intOf i).toNat)
      case atStart => exact ⟨0, Nat.zero_le _, rfl, rfl, by first | rfl | trivial⟩
      case round =>
        obtain ⟨j, hj, rfl, rfl, rfl⟩ := hrel
        by_cases hja : j < a
        · have hja' : (j : Int) < (a : Int) := by omega
          have hp1 := Xhpow.out j hja
          have hp2 : M ^ (j + 1) = M ^ j * M := Nat.pow_succ ..
          obtain ⟨q, hq⟩ : ∃ q, q = M ^ j * M := ⟨_, rfl⟩
          rw [← hq] at hp1 hp2
          have hmul : ((M ^ j : Nat) : Int) * (M : Int) = (q : Int) := by rw [hq, Int.natCast_mul]
          generalize M ^ j = p at *
          have Xhp2 := hide hp2
          have Xhq := hide hq
          clear hp2 hq
          go_wp2_with fail
          go_roundw
          case rel => exact ⟨j + 1, by omega, by go_num, by rw [Xhp2.out], by first | rfl | trivial⟩
          case measure => simp [intOf]; omega
        · have hja : j = a := by omega
          subst hja
          generalize hP : M ^ j = pw at *
          have XhP := hide hP
          clear hP
          clear Xhpow
          go_wp2_with fail
          with_reducible refine XcL.out.mono ?_
          rintro e w4 ⟨b4, h4⟩
          rcases h4 with ⟨h4, -⟩ | ⟨-, S, bz, gz, rfl, hfix, ws, -, -, hgood, -⟩
          · exact absurd (longG_check' hD1 hD7 hM1 hM8) h4
          have hfix' : Fixed (longG j M).rules (startW 1 j) S := by
            have := hfix
            rwa [show (longG j M).terms.length = 1 from rfl, show (longG j M).nons.length = j by simp [longG]] at this
          obtain ⟨t1, t2, t3⟩ := long_two hD1 hM1 hfix'
          rw [XhP.out] at t2 t3
          have hW := least_word 2 ws (fun i => (jTo_good hgood _).1)
          rw [join_one S _ hgood 2] at hW
          have hlv : lengthOf S 2 = if (lookW S 2).is = false then -1 else if (lookW S 2).long = true then 4097 else ((lookW S 2).l.length : Int) := rfl
          generalize hx : lookW S 2 = x at *
          obtain ⟨xi, xl, xs⟩ := x
          simp only at t1
          subst t1
          have hb4 := Xhb.out.trans (b4.mono hzr)
          have hz4 : z ≤ w4.heap.size := Nat.le_trans hzr b4.size
          clear hfix hfix' hgood XcL b4 hx hzr
          have XhW := hide hW
          have Xws := hide ws
          have Xhb4 := hide hb4
          have Xt2 := hide t2
          have Xt3 := hide t3
          have Xhlv := hide hlv
          clear hW ws hb4 t2 t3 hlv
          go_wp2_with fail
          with_reducible refine XhW.out.mono ?_
          rintro e w5 ⟨A5, n5, c5, rfl, hr5, b5⟩
          have hl5 := least_length (Xws.out.below b5) 2
          have hb5 := Xhb4.out.trans (b5.mono hz4)
          have hz5 : z ≤ w5.heap.size := Nat.le_trans hz4 b5.size
          obtain ⟨hn5, hnc5, hcm5, -⟩ := RdI.at_ hr5
          simp only at hn5
          rw [Xhlv.out] at hl5
          by_cases hbig : 4096 < pw
          · obtain ⟨u1, u2⟩ := Xt3.out hbig
            try simp only at u1 u2
            subst u1 u2
            have hn0 : n5 = 0 := by simpa using hn5
            subst hn0
            have hbig' : (4096 : Int) < (pw : Int) := by omega
            have Xhb5 := hide hb5
            clear hb5
            clear Xt2 Xt3 Xhlv XhW Xws Xhb4 hr5 hn5 b5
            simp only [Bool.true_eq_false, if_false, if_true] at hl5
            have Xhl5 := hide hl5
            clear hl5
            go_wp2_with fail
            with_reducible refine Xhl5.out.mono ?_
            rintro e w6 ⟨rfl, rfl⟩
            go_wp2_with fail
            with_reducible refine (law10_awake _).mono ?_
            rintro e w7 ⟨rfl, b7⟩
            go_wp2_with fail
            go_ret
            exact ⟨rfl, by rw [hz]; exact Xhb5.out.trans (b7.mono hz5)⟩
          · obtain ⟨u1, u2⟩ := Xt2.out (by omega)
            try simp only at u1 u2
            subst u1
            have hbig' : ¬ (4096 : Int) < (pw : Int) := by omega
            have hn6 : n5 = pw := by omega
            subst hn6
            have Xhb5 := hide hb5
            clear hb5
            clear Xt2 Xt3 Xhlv XhW Xws Xhb4 hr5 hn5 b5
            simp only [Bool.true_eq_false, if_false, Bool.false_eq_true] at hl5
            rw [u2] at hl5
            have Xhl5 := hide hl5
            have Xu2 := hide u2
            clear hl5 u2
            go_wp2_with fail
            with_reducible refine Xhl5.out.mono ?_
            rintro e w6 ⟨rfl, rfl⟩
            go_wp2_with fail
            with_reducible refine (law10_awake _).mono ?_
            rintro e w7 ⟨rfl, b7⟩
            go_wp2_with fail
            go_ret
            exact ⟨rfl, by rw [hz]; exact Xhb5.out.trans (b7.mono hz5)⟩
end Go.Proofs.Ytejjaabkbkkjlaa
