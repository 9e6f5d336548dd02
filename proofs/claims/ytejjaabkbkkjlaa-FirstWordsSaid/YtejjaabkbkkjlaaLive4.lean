/- live.reached. -/
import Derived.Test.YtejjaabkbkkjlaaLive3
import Derived.Test.YtejjaabkbkkjlaaOf
namespace Go.Proofs.Ytejjaabkbkkjlaa
set_option linter.unusedVariables false
open Go.RowKit
attribute [local irreducible] wpStill wpOne wpPh

set_option maxRecDepth 100000 in
set_option maxHeartbeats 4000000 in
theorem live_reached {w : World} {F : Nat → Prop} {vt vn vr : Value} {G : GramD} (h : IsGram w F vt vn vr G) (st : Int) (hk : Kn G st) :
    Calls Try.prog 104 #[GV vt vn vr st] w (SetPost w (G.terms.length + G.nons.length + 1) (rchB G st)) := by
  obtain ⟨A1, c1, A2, c2, A3, c3, rfl, rfl, rfl, -⟩ := h.slices
  obtain ⟨w1, hw1⟩ : ∃ w1, w1 = w.alloc (.cells #[.slice A1 G.terms.length c1, .slice A2 G.nons.length c2, .slice A3 G.rules.length c3, .int .i64 st] 25) := ⟨_, rfl⟩
  have g1 := GBox.new h st
  have b1 : Below w.heap.size w w1 := by rw [hw1]; exact (Below.refl _ w).alloc (Nat.le_refl _) _
  have z1 : w1.heap.size = w.heap.size + 1 := by rw [hw1]; simp
  rw [← hw1] at g1
  have ct := gram_top g1.gram st
  rw [show topOf G = G.terms.length + G.nons.length from rfl] at ct
  have hF := h.lt
  have t0 := hk.t
  have t1 := hk.n
  have hset := fun (f : Nat → Bool) hs h0 hc hhi => rch_set hk (f := f) hs h0 hc hhi
  have hst := hk.st
  rw [isNon_iff] at hst
  generalize hT : G.terms.length = T at *
  generalize hN : G.nons.length = N at *
  generalize hR : G.rules.length = R at *
  obtain ⟨q0, q1, q2, q3⟩ := g1.cells
  rw [hw1] at ct q0 q1 q2 q3
  clear h
  have Xhk := hide hk
  have XhF := hide hF
  have Xct := hide ct
  have Xg1 := hide g1
  have Xb1 := hide b1
  have Xhset := hide hset
  have XhT := hide hT
  have XhN := hide hN
  have XhR := hide hR
  have Xz1 := hide z1
  clear hk hF ct g1 b1 hset hT hN hR z1
  go_enter Try.func104, Try.ntmps104
  go_wp2_with fail
  with_reducible refine Xct.out.mono ?_
  rintro e w2 ⟨rfl, b2⟩
  rw [← hw1] at b2
  have g2 := Xg1.out.below b2
  have hb2 := Xb1.out.trans (b2.mono Xb1.out.size)
  have z2 : w.heap.size < w2.heap.size := by have := b2.size; have := Xz1.out; omega
  clear hw1 q0 q1 q2 q3 Xct Xg1 Xb1 b2 Xz1
  go_wp2_with fail
  refine (set_new _ w2).mono ?_
  rintro e w3 ⟨rfl, hs3, b3⟩
  rw [show (min (max ((T : Int) + (N : Int) + 1) 0) 4096).toNat = T + N + 1 by omega] at hs3
  have t3 : GSet w w3 F w.heap.size A1 c1 A2 c2 A3 c3 T N R st G (w2.heap.size + 1) (New (fun _ => False) w2 w3) (T + N + 1) noBits := ⟨g2.below b3, hs3, hb2.trans (b3.mono hb2.size)⟩
  have hS : ∀ k, New (fun _ => False) w2 w3 k → w.heap.size < k ∧ k < w3.heap.size := fun k hk => by
    rcases hk with hk | hk
    · exact hk.elim
    · omega
  have z3 : w.heap.size < w3.heap.size := Nat.lt_of_lt_of_le z2 b3.size
  generalize New (fun _ => False) w2 w3 = S at *
  generalize w2.heap.size + 1 = b at *
  clear g2 hb2 hs3 b3 z2
  generalize hn : T + N + 1 = n at *
  have hno : ∀ s, hasI n noBits s = false := fun s => by unfold hasI noBits; simp
  have hpa : putAns n noBits st = true := putAns_iff.2 ⟨by omega, hno st⟩
  have hi0 : RInv G st n (putSet n noBits st) [st] (fun _ => False) := by
    refine ⟨fun s hs => ?_, ?_, fun x hx => ?_, fun r hr h1 h2 => ?_⟩
    · rw [putSet_has, hno] at hs
      simp only [Bool.false_or, Bool.and_eq_true, decide_eq_true_eq] at hs
      rw [hs.2]; exact Rch.start
    · rw [putSet_has]; simp; omega
    · rw [List.mem_singleton.1 hx, putSet_has]; simp; omega
    · rw [putSet_has, hno] at h1
      simp only [Bool.false_or, Bool.and_eq_true, decide_eq_true_eq] at h1
      exact absurd (by rw [h1.2]; simp) h2
  have hu0 : unset (putSet n noBits st) n ≤ n := by
    unfold unset
    exact Nat.le_trans (List.length_filter_le _ _) (by simp)
  have cp := set_put_yes t3.s st hpa
  generalize putSet n noBits st = f0 at *
  obtain ⟨q0, q1, q2, q3⟩ := t3.g.cells
  have Xt3 := hide t3
  have XhS := hide hS
  have Xhn := hide hn
  have Xhno := hide hno
  have Xhpa := hide hpa
  have Xhi0 := hide hi0
  have Xhu0 := hide hu0
  have Xcp := hide cp
  clear t3 hS hn hno hpa hi0 hu0 cp
  go_wp2_with fail
  with_reducible refine Xcp.out.mono ?_
  rintro e w4 ⟨rfl, hs4, ht4⟩
  have t4 := Xt3.out.put XhF.out (fun k hk => (XhS.out k hk).1) hs4 ht4
  have z4 : w.heap.size < w4.heap.size := Nat.lt_of_lt_of_le z3 ht4.size
  have hS4 : ∀ k, S k → w.heap.size < k ∧ k < w4.heap.size := fun k hk => ⟨(XhS.out k hk).1, Nat.lt_of_lt_of_le (XhS.out k hk).2 ht4.size⟩
  have hr5 : RSt w (w4.alloc (.cells #[I64 st] 3)) F A1 c1 A2 c2 A3 c3 T N R st G b S n w4.heap.size f0 (some ⟨w4.heap.size, 0, none⟩) 1 1 [st] 0 0 (.slice none 0 0) [] :=
    ⟨t4.below ((Below.refl _ _).alloc (Nat.le_refl _) _), ⟨rfl, .inr ⟨w4.heap.size, 1, #[I64 st], rfl, Nat.le_refl _, Blk.new w4 _ _, Nat.le_refl _, by decide, rfl, rfl⟩⟩, fun k _ => .inr (Nat.zero_le _), Rd.nil _ _ _, Nat.zero_le _, fun h => absurd h (by omega), XhF.out, hS4, ⟨z4, by simp⟩⟩
  obtain ⟨q0, q1, q2, q3⟩ := t4.g.cells
  have Xhr5 := hide hr5
  have XhS4 := hide hS4
  clear hr5 hS4
  clear XhS hs4 ht4 t4 Xt3 Xcp z3
  go_wp2_with fail
  clear q0 q1 q2 q3
  generalize w4.heap.size = z at *
  go_loopg [4] (2 * unset f0 n + 1) (fun κ todo wr => ∃ (f : Nat → Bool) (A : Option Addr) (m c : Nat) (td : List Int), todo = .slice A m c ∧ RSt w wr F A1 c1 A2 c2 A3 c3 T N R st G b S n z f A m c td 0 0 (.slice none 0 0) [] ∧ RInv G st n f td (fun _ => False) ∧ 2 * unset f n + m ≤ κ ∧ 2 * unset f n + m ≤ 2 * n + 1)
  case atStart => exact ⟨f0, _, 1, 1, [st], rfl, Xhr5.out, Xhi0.out, Nat.le_refl _, by have := Xhu0.out; omega⟩
  case round =>
    clear Xhr5 Xhi0 Xhu0
    obtain ⟨f, A, m, c, td, rfl, r, i, hm1, hm2⟩ := hrel
    have hml : td.length = m := by have := r.o.1; simpa using this
    by_cases hm0 : m = 0
    · subst hm0
      have htd : td = [] := List.eq_nil_of_length_eq_zero hml
      subst htd
      have hcl : ∀ r ∈ G.rules, hasI n f r.1 = true → ∀ x ∈ r.2, hasI n f x = true := fun r hr h1 => i.cl r hr h1 (by simp) (fun h => h)
      have hf : ∀ j, f j = rchB G st j := Xhset.out f (by first | exact i.sd | (rw [Xhn.out]; exact i.sd)) (by first | exact i.s0 | (rw [Xhn.out]; exact i.s0)) (by first | exact hcl | (rw [Xhn.out]; exact hcl)) (by first | exact r.t.s.high | (rw [Xhn.out]; exact r.t.s.high))
      have fin : SetPost w n (rchB G st) (.returned (.pointer (some ⟨b, 0, none⟩))) wr := ⟨b, S, rfl, r.t.s.ext hf, fun k hk => Nat.le_of_lt (r.hS k hk).1, r.t.b⟩
      clear hm1 hm2 hml
      have Xfin := hide fin
      have Xr := hide r
      have Xi := hide i
      have Xhcl := hide hcl
      have Xhf := hide hf
      clear fin r i hcl hf
      go_wp2_with fail
      go_ret
      exact Xfin.out
    · obtain ⟨m, rfl⟩ : ∃ m', m = m' + 1 := ⟨m - 1, by omega⟩
      obtain ⟨td, left, rfl⟩ : ∃ td' l, td = td' ++ [l] := by
        refine ⟨td.dropLast, td.getLast (by rintro rfl; simp at hml), (List.dropLast_concat_getLast _).symm⟩
      obtain ⟨g, rfl, hcg, hmc, hcm⟩ := own_last (by have := r.o; rwa [List.map_append] at this)
      unfold maxLen at hcm
      have rp := r.pop
      obtain ⟨ip, hrl⟩ := i.pop
      have co := gram_of r.t.g.gram st left
      have hmem : ∀ i, i ∈ ofOf G left ↔ ∃ (n : Nat) (x : List Int), i = n ∧ G.rules[n]? = some (left, x) := fun i => of_mem
      obtain ⟨ls, hls⟩ : ∃ ls, ls = ofOf G left := ⟨_, rfl⟩
      rw [← hls] at co hmem
      obtain ⟨q0, q1, q2, q3⟩ := r.t.g.cells
      have hu1 : 2 * unset f n + m + 1 ≤ gk := hm1
      have hu2 : 2 * unset f n + m ≤ 2 * n := by omega
      have hm1' : (m : Int) < ((m + 1 : Nat) : Int) := by omega
      clear hml hm1 hm2 hm0 r i hls
      have Xrp := hide rp
      have Xip := hide ip
      have Xhrl := hide hrl
      have Xco := hide co
      have Xhmem := hide hmem
      have Xhu1 := hide hu1
      clear rp ip hrl co hmem hu1
      go_wp2_with fail
      with_reducible refine Xco.out.mono ?_
      rintro e w7 ⟨A7, c7, rfl, ho7, b7⟩
      have r7 := Xrp.out.read b7 ((Rd.of_own ho7).mono (fun k hk => ho7.lt k hk))
      generalize hyy : w7.heap.size = y' at r7
      generalize hyy2 : wr.heap.size = y at r7
      obtain ⟨hn7, hnc7, hcm7, -⟩ := RdI.at_ r7.hl
      unfold maxLen at hcm7
      clear hn7 q0 q1 q2 q3 b7 ho7 Xrp Xco hcg hyy hyy2 hmc
      have Xr7 := hide r7
      clear r7
      go_wp2_with fail
      go_loopw [4, 39] (fun todo i wr => ∃ (q : Nat) (f : Nat → Bool) (A : Option Addr) (m c : Nat) (td : List Int), q ≤ ls.length ∧ i = .int .i64 q ∧ todo = .slice A m c ∧ RSt w wr F A1 c1 A2 c2 A3 c3 T N R st G b S n z f A m c td y y' (.slice A7 ls.length c7) ls ∧ RInv G st n f td (fun s => s = left) ∧ (∀ (j : Nat) (i : Int), j < q → ls[j]? = some i → ∀ x ∈ rightOf G i, hasI n f x = true) ∧ 2 * unset f n + m + 1 ≤ gk ∧ 2 * unset f n + m ≤ 2 * n) (fun _ i _ => ls.length - (intOf i).toNat)
      case atStart => exact ⟨0, f, _, m, c, td, Nat.zero_le _, rfl, rfl, Xr7.out, Xip.out, fun j i hj => absurd hj (by omega), Xhu1.out, hu2⟩
      case round =>
        clear Xr7 Xip Xhu1 hu2
        obtain ⟨q, f, A, m, c, td, hq, rfl, rfl, r, i, hd, hu1, hu2⟩ := hrel
        by_cases hlq : q < ls.length
        · obtain ⟨-, -, -, hcell⟩ := RdI.at_ r.hl
          obtain ⟨bl, off, rfl, hbl, hcc⟩ := hcell (by omega)
          obtain ⟨iq, hiq⟩ : ∃ i, ls[q]? = some i := ⟨_, List.getElem?_eq_getElem hlq⟩
          have hcq := hcc q iq hiq
          obtain ⟨rn, xs, rfl, hrx⟩ := (Xhmem.out iq).1 (List.mem_of_getElem? hiq)
          have hrR : rn < R := by have := (List.getElem?_eq_some_iff.1 hrx).1; rw [XhR.out] at this; exact this
          obtain ⟨rb, roff, l0, r0, Ax, nx, cx, rfl, hbl3, hx3, h0, h1, hrr, hnr, hnrc, hcrm⟩ := r.t.g.rule hrR
          rw [hrx] at hx3
          injection hx3 with hx3
          injection hx3 with e1 e2
          subst e1 e2
          obtain ⟨q0, q1, q2, q3⟩ := r.t.g.cells
          have s0 := r.t.g.rs
          have s1 := r.t.g.rc
          have s2 := r.t.g.c3m
          have hlq' : (q : Int) < (ls.length : Int) := by omega
          have hrR' : (rn : Int) < (R : Int) := by omega
          have hkx := (Xhk.out.k _ (List.mem_of_getElem? hrx)).2
          simp only [XhT.out, XhN.out] at hkx
          have hrch : ∀ x ∈ xs, Rch G.rules st x := fun x hx => Rch.step _ x (List.mem_of_getElem? hrx) Xhrl.out hx
          clear hcell hcc
          have Xr := hide r
          have Xi := hide i
          have Xhd := hide hd
          have Xhu1 := hide hu1
          have Xhrr := hide hrr
          have Xhnr := hide hnr
          have Xhrx := hide hrx
          have Xhiq := hide hiq
          have Xhkx := hide hkx
          have Xhrch := hide hrch
          clear r i hd hu1 hrr hnr hrx hiq hkx hrch
          go_wp2_with fail
          clear q0 q1 q2 q3 h0 h1 hcq s0 s1 s2
          go_loopw [4, 50] (fun todo i wr => ∃ (p : Nat) (f : Nat → Bool) (A : Option Addr) (m c : Nat) (td : List Int), p ≤ nx ∧ i = .int .i64 p ∧ todo = .slice A m c ∧ RSt w wr F A1 c1 A2 c2 (some ⟨rb, roff, none⟩) c3 T N R st G b S n z f A m c td y y' (.slice (some ⟨bl, off, none⟩) ls.length c7) ls ∧ RInv G st n f td (fun s => s = left) ∧ (∀ (j : Nat) (i : Int), j < q → ls[j]? = some i → ∀ x ∈ rightOf G i, hasI n f x = true) ∧ (∀ (j : Nat) (x : Int), j < p → xs[j]? = some x → hasI n f x = true) ∧ RdI wr F (.slice Ax nx cx) xs ∧ 2 * unset f n + m + 1 ≤ gk ∧ 2 * unset f n + m ≤ 2 * n) (fun _ i _ => nx - (intOf i).toNat)
          case atStart => exact ⟨0, f, A, m, c, td, Nat.zero_le _, rfl, rfl, Xr.out, Xi.out, Xhd.out, fun j x hj => absurd hj (by omega), Xhrr.out, Xhu1.out, hu2⟩
          case round =>
            clear Xr Xi Xhd Xhrr Xhu1 hu2
            obtain ⟨p, f, A, m, c, td, hp, rfl, rfl, r, i, hd, hpd, hrr, hu1, hu2⟩ := hrel
            by_cases hpx : p < nx
            · obtain ⟨-, -, -, hcell⟩ := RdI.at_ hrr
              obtain ⟨xb, xoff, rfl, hxb, hcc⟩ := hcell (by omega)
              obtain ⟨x, hxp⟩ : ∃ x, xs[p]? = some x := ⟨_, List.getElem?_eq_getElem (by rw [← Xhnr.out]; exact hpx)⟩
              have hcx := hcc p x hxp
              have hxm := List.mem_of_getElem? hxp
              have hrng := Xhkx.out x hxm
              have hpx' : (p : Int) < (nx : Int) := by omega
              clear hcell hcc
              cases hh : hasI n f x with
              | true =>
                have hpn : putAns n f x = false := by
                  cases hpp : putAns n f x with
                  | false => rfl
                  | true => rw [(putAns_iff.1 hpp).2] at hh; cases hh
                have cp := set_put_no r.t.s x hpn
                have hpd2 : ∀ (j : Nat) (y : Int), j < p + 1 → xs[j]? = some y → hasI n f y = true := fun j y hj hy => by
                  by_cases e : j = p
                  · subst e; rw [hxp] at hy; injection hy with hy; subst hy; exact hh
                  · exact hpd j y (by omega) hy
                have Xcp := hide cp
                have Xr := hide r
                have Xi := hide i
                have Xhd := hide hd
                have Xhpd := hide hpd
                have Xhrr := hide hrr
                have Xhu1 := hide hu1
                have Xhxp := hide hxp
                have Xhh := hide hh
                have Xhpn := hide hpn
                have Xhpd2 := hide hpd2
                have Xhxm := hide hxm
                clear cp r i hd hpd hrr hu1 hxp hh hpn hpd2 hxm
                go_wp2_with fail
                with_reducible refine Xcp.out.mono ?_
                rintro e w8 ⟨rfl, rfl⟩
                go_wp2_with fail
                go_roundw
                case rel => exact ⟨p + 1, f, A, m, c, td, by omega, by go_num, rfl, Xr.out, Xi.out, Xhd.out, Xhpd2.out, Xhrr.out, Xhu1.out, hu2⟩
                case measure => simp [intOf]; omega
              | false =>
                have hpy : putAns n f x = true := putAns_iff.2 ⟨⟨by omega, by have := Xhn.out; omega⟩, hh⟩
                have cp := set_put_yes r.t.s x hpy
                have hmon : ∀ s, hasI n f s = true → hasI n (putSet n f x) s = true := fun s hs => by rw [putSet_has, hs]; rfl
                have hself : hasI n (putSet n f x) x = true := by
                  obtain ⟨⟨h0, h1⟩, -⟩ := putAns_iff.1 hpy
                  rw [putSet_has]; simp [h0, h1]
                have hpd2 : ∀ (j : Nat) (y : Int), j < p + 1 → xs[j]? = some y → hasI n (putSet n f x) y = true := fun j y hj hy => by
                  by_cases e : j = p
                  · subst e; rw [hxp] at hy; injection hy with hy; subst hy; exact hself
                  · exact hmon _ (hpd j y (by omega) hy)
                have hd2 : ∀ (j : Nat) (i : Int), j < q → ls[j]? = some i → ∀ x' ∈ rightOf G i, hasI n (putSet n f x) x' = true := fun j i hj hi y hy => hmon _ (hd j i hj hi y hy)
                have i2 := i.put (Xhrch.out x hxm) hpy
                have hus := unset_put hpy
                generalize putSet n f x = f2 at *
                have hu3 : 2 * unset f2 n + (m + 1) + 1 ≤ gk := by omega
                have hu4 : 2 * unset f2 n + (m + 1) ≤ 2 * n := by omega
                have hn2 : n ≤ 241 := by have := Xhn.out; omega
                have Xcp := hide cp
                have Xr := hide r
                have Xi := hide i
                have Xhd := hide hd
                have Xhpd := hide hpd
                have Xhrr := hide hrr
                have Xhu1 := hide hu1
                have Xhxp := hide hxp
                have Xhh := hide hh
                have Xhpy := hide hpy
                have Xhpd2 := hide hpd2
                have Xhxm := hide hxm
                have Xhmon := hide hmon
                have Xhself := hide hself
                have Xhd2 := hide hd2
                have Xi2 := hide i2
                have Xhus := hide hus
                have Xhu3 := hide hu3
                clear cp r i hd hpd hrr hu1 hxp hh hpy hpd2 hxm hmon hself hd2 i2 hus hu3
                go_wp2_with fail
                with_reducible refine Xcp.out.mono ?_
                rintro e w8 ⟨rfl, hs8, ht8⟩
                have r8 := Xr.out.put hs8 ht8
                have hrr8 := (show RdI wr F _ xs from Xhrr.out).touch ht8 (fun k hk hk' => by have h1 := XhF.out k hk; have h2 := (r8.hS k hk').1; omega)
                have r9 := r8.alloc (.cells #[I64 x] 3)
                have hrr9 := hrr8.below ((Below.refl _ w8).alloc (Nat.le_refl _) (.cells #[I64 x] 3)) (fun k hk => by have h1 := XhF.out k hk; have h2 := r8.hz; omega)
                have ho9 := r9.o
                have rd9 : Rd (w8.alloc (.cells #[I64 x] 3)) (fun _ => True) (.slice (some ⟨w8.heap.size, 0, none⟩) 1 1) 1 [I64 x] := Rd.one (w := w8) (e := 3) [I64 x] 1 rfl
                have hz9 := r9.hz.2
                clear Xr Xhrr Xcp hcx
                have Xhs8 := hide hs8
                have Xht8 := hide ht8
                have Xr8 := hide r8
                have Xhrr8 := hide hrr8
                have Xr9 := hide r9
                have Xhrr9 := hide hrr9
                clear hs8 ht8 r8 hrr8 r9 hrr9
                go_wp2_with (at_builtin; refine wp_append _ rfl (.tmp 57) (.tmp 59) _ rfl Try.elemInt z _ m (td.map I64) rfl ho9 _ _ [I64 x] 1 rfl rfl rd9 (by simp [Value.oneCell']) (by unfold maxLen; omega) (by omega) hz9 ?_)
                intro B d w10 ho10 hg10 hv10
                have r10 := Xr9.out.push hg10 ho10 (hv10.imp id fun e => by rw [e]; simp)
                have hrr10 := Xhrr9.out.touch (Touch.of_below ((Below.refl z _).grown hg10 hz9 (fun k hk => (ho9.lt k hk).1))) (fun k hk hk' => by have h1 := XhF.out k hk; have h2 := r10.hz.1; omega)
                clear ho9 rd9 ho10 hg10 hv10 Xr9 Xhrr9 Xr8 Xhrr8
                have Xr10 := hide r10
                have Xhrr10 := hide hrr10
                clear r10 hrr10
                go_wp2_with fail
                go_roundw
                case rel => exact ⟨p + 1, f2, B, m + 1, d, td ++ [x], by omega, by go_num, rfl, Xr10.out, Xi2.out, Xhd2.out, Xhpd2.out, Xhrr10.out, Xhu3.out, hu4⟩
                case measure => simp [intOf]; omega
            · have hpn : p = nx := by omega
              have hpx' : ¬ (p : Int) < (nx : Int) := by omega
              have hd2 : ∀ (j : Nat) (i : Int), j < q + 1 → ls[j]? = some i → ∀ x ∈ rightOf G i, hasI n f x = true := fun j i hj hi x hx => by
                by_cases e : j = q
                · subst e
                  rw [Xhiq.out] at hi
                  injection hi with hi
                  subst hi
                  rw [rightOf_nat Xhrx.out] at hx
                  obtain ⟨k, hk, e⟩ := List.getElem_of_mem hx
                  exact hpd k x (by have := Xhnr.out; omega) (by rw [List.getElem?_eq_getElem hk, e])
                · exact hd j i (by omega) hi x hx
              have Xr := hide r
              have Xi := hide i
              have Xhd := hide hd
              have Xhpd := hide hpd
              have Xhrr := hide hrr
              have Xhu1 := hide hu1
              have Xhd2 := hide hd2
              have Xhpn := hide hpn
              clear r i hd hpd hrr hu1 hd2 hpn
              go_wp2_with fail
              go_roundw
              case rel => exact ⟨q + 1, f, A, m, c, td, by omega, by go_num, rfl, Xr.out, Xi.out, Xhd2.out, Xhu1.out, hu2⟩
              case measure => simp [intOf]; omega
        · have hlq' : ¬ (q : Int) < (ls.length : Int) := by omega
          have hi2 : RInv G st n f td (fun _ => False) := i.done fun rr hr e x hx => by
            obtain ⟨l0, xs0⟩ := rr
            simp only at e
            subst e
            obtain ⟨k, hk, e⟩ := List.getElem_of_mem hr
            have hk2 : G.rules[k]? = some (l0, xs0) := by rw [List.getElem?_eq_getElem hk, e]
            have hin := (Xhmem.out (k : Int)).2 ⟨k, xs0, rfl, hk2⟩
            obtain ⟨j, hj, ej⟩ := List.getElem_of_mem hin
            exact hd j k (by omega) (by rw [List.getElem?_eq_getElem hj, ej]) x (by rw [rightOf_nat hk2]; exact hx)
          have rr := r.rest
          have hu3 : 2 * unset f n + m < gk := by omega
          have hu4 : 2 * unset f n + m ≤ 2 * n + 1 := by omega
          have Xr := hide r
          have Xi := hide i
          have Xhd := hide hd
          have Xhu1 := hide hu1
          have Xhi2 := hide hi2
          have Xrr := hide rr
          have Xhu3 := hide hu3
          clear r i hd hu1 hi2 rr hu3
          go_wp2_with fail
          go_roundg (2 * unset f n + m)
          case measure => exact Xhu3.out
          case rel => exact ⟨f, A, m, c, td, rfl, Xrr.out, Xhi2.out, Nat.le_refl _, hu4⟩
end Go.Proofs.Ytejjaabkbkkjlaa
