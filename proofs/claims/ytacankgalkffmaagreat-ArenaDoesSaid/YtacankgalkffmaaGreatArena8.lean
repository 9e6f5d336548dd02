/- Trees of nodes: the iterator under, walked. -/
import Derived.Test.YtacankgalkffmaaGreatArena7
import Derived.TacticsInMore
namespace Go.Proofs.YtacankgalkffmaaGreat
set_option linter.unusedVariables false
set_option linter.unusedSimpArgs false
open Go.RowKit Go.Shelf
attribute [local go_sem] Oper.semAt_some
theorem wpListIn_appendA {F : Fence} {N : Nat} {P : Program} (w : World) {ops : Array Oper} {rest : List Oper} {o : Oper} {a : Act} {Q : Exit → Act → World → Prop} (hgd : o.guard = none) (s x : Operand) (t : TypeId)
  (ho : o.op = .call { callee := .builtin .append, args := #[s, x], argTypes := #[t, t] }) {e : TypeId} {z : Value} {size bytes : Nat} (E : Elem P t e z size bytes) (base : Nat)
  (v : Value) (n : Nat) (xs : List Value) (hs : a.eval s = v) (hown : w.ownsRow base e size v n xs) (Fb : Nat → Prop) (vx : Value) (news : List Value) (m : Nat) (hx : a.eval x = vx) (hm : news.length = m * size) (hr : Rd w Fb vx size news) (h1 : ∀ u ∈ news, u.oneCell' = true)
  (h63 : n + m ≤ maxLen) (hbytes : (n + m) * bytes ≤ 140737488355328) (hbase : base ≤ w.heap.size)
  (h : ∀ A c w', w'.ownsRow base e size (.slice A (n + m) c) (n + m) (xs ++ news) → w.grownBy w' v.ownBlock → ((Value.slice A (n + m) c).ownBlock = v.ownBlock ∨ (Value.slice A (n + m) c).ownBlock = some w.heap.size) → wpListIn F N P ops Q rest (a.put o.dst (.slice A (n + m) c)) w') :
  wpListIn F N P ops Q (o :: rest) a w := by
 refine wpListIn_plain hgd fun K hK' => ?_
 obtain ⟨A, c, w', hrun, h2, h3, h4⟩ := append_run (P := P) w E o.type base v n xs hown Fb vx news m hm hr h1 h63 hbytes hbase
 unfold Oper.wpIn
 refine ⟨?_, ?_⟩
 ·simp [Oper.about, ho, resolve, Target.leads, Sem.run_pure]
 ·rw [Oper.semAt_plain F _ _ (by rw [ho]; intro c hc'; cases hc')]
  simp [execOp, ho, resolve, invoke, builtin, hs, hx, hrun, Result.andThen]
  exact hK' _ _ (h A c w' h2 h3 h4)
def undL (L : List Nd) (i : Int) : List Int := if inN L.length i = true then preO (kidsL L) i else []
structure UnS (W0 W : World) (R O : Nat → Prop) (T lo : Nat) (v : Value) (st : List Int) (ds : List Deferred) : Prop where
 keep : Touch (fun b => ¬ R b) W0 W
 box : Blk W T 33 #[v]
 own : W.ownsRow lo 3 1 v st.length (st.reverse.map (Value.int .i64))
 oT : O T
 ov : ∀ k, v.ownBlock = some k → O k ∧ k ≠ T
 ob : ∀ b, O b → lo ≤ b ∧ b < W.heap.size
 mrk : MkO (fun b => O b ∧ b ≠ T ∧ v.ownBlock ≠ some b) ds W
theorem UnS.pop {W0 W : World} {R O : Nat → Prop} {T lo g c : Nat} {k : Int} {st : List Int} {ds : List Deferred} (hR : ∀ b, R b → b < lo) (h : UnS W0 W R O T lo (.slice (some ⟨g, 0, none⟩) (st.length + 1) c) (k :: st) ds) : UnS W0 (W.setCell ⟨T, 0, none⟩ (.slice (some ⟨g, 0, none⟩) st.length c)) R O T lo (.slice (some ⟨g, 0, none⟩) st.length c) st ds := by
 have t : Touch (fun b => b = T) W (W.setCell ⟨T, 0, none⟩ (.slice (some ⟨g, 0, none⟩) st.length c)) := touch_set _ _ _ _
 have hT := h.ob T h.oT
 refine ⟨h.keep.trans t fun b hb e hr => ?_, h.box.put 0 _, ?_, h.oT, h.ov, fun b hb => ⟨(h.ob b hb).1, by rw [setc_size]; exact (h.ob b hb).2⟩, h.mrk.touch t fun b hb e => hb.2.1 e⟩
 ·subst e
  have := hR _ hr
  omega
 ·have o := own_cut (m := st.length) h.own (Nat.le_succ _)
  have e : ((k :: st).reverse.map (Value.int .i64)).take (st.length * 1) = st.reverse.map (Value.int .i64) := by
   rw [List.reverse_cons, List.map_append, Nat.mul_one, List.take_append_of_le_length (by simp), List.take_of_length_le (by simp)]
  rw [e] at o
  exact t.own o fun k' e => (h.ov k' e).2
theorem UnS.top {W0 W : World} {R O : Nat → Prop} {T lo : Nat} {v : Value} {k : Int} {st : List Int} {ds : List Deferred} (h : UnS W0 W R O T lo v (k :: st) ds) : ∃ g c, v = .slice (some ⟨g, 0, none⟩) (st.length + 1) c ∧ st.length + 1 ≤ c ∧ c ≤ maxLen ∧ W.cell? ⟨g, st.length, none⟩ = some (.int .i64 k) := by
 rcases h.own.2 with ⟨-, hn⟩ | ⟨g, cap, cur, rfl, hb, hh, hn, hc, hz, ht⟩
 ·simp at hn
 ·refine ⟨g, cap, rfl, hn, hc, ?_⟩
  rw [cell_of_row W g st.length cur 3 (0, 0) hh]
  have : ((k :: st).reverse.map (Value.int .i64))[st.length]? = some (.int .i64 k) := by
   rw [List.reverse_cons, List.map_append, List.getElem?_append_right (by simp)]
   simp
  rw [← ht, List.getElem?_take] at this
  split at this
  ·simpa using this
  ·cases this
theorem MkO.mono' {O O' : Nat → Prop} {ds : List Deferred} {w : World} (h : MkO O ds w) (hO : ∀ b, O b → O' b) : MkO O' ds w := by
 obtain ⟨Ds, h1, h2, h3⟩ := h
 exact ⟨Ds, h1, h2, fun D hD => ⟨hO _ (h3 D hD).1, (h3 D hD).2⟩⟩
theorem wtS_len {K : List (List Int)} (h : Acyc K) : ∀ l : List Int, l.length ≤ wtS K l
 | [] => Nat.zero_le _
 | i :: l => by
  have := wtS_len h l
  have := wtN_pos h i
  rw [wtS_cons, List.length_cons]
  omega
theorem own_not_mark {w : World} {base : Nat} {e : TypeId} {size n : Nat} {v : Value} {xs : List Value} (h : w.ownsRow base e size v n xs) {k : Nat} (hk : w.heap[k]? = some (.deferred (some []))) : v.ownBlock ≠ some k := fun c => by
 rcases h.2 with ⟨rfl, -⟩ | ⟨g, cap, cur, rfl, -, hh, -⟩
 ·cases c
 ·simp only [Value.ownBlock, Option.some.injEq] at c
  subst c
  rw [hh] at hk
  cases hk
theorem UnS.round {W0 W W' : World} {R O : Nat → Prop} {T lo : Nat} {v : Value} {st : List Int} {ds : List Deferred} (h : UnS W0 W R O T lo v st ds) (t : Touch (fun b => ¬ R b ∧ ¬ O b) W W') : UnS W0 W' R O T lo v st ds :=
 ⟨h.keep.trans t fun b _ c => c.1, h.box.touch t fun c => c.2 h.oT, t.own h.own fun k e c => c.2 (h.ov k e).1, h.oT, h.ov, fun b hb => ⟨(h.ob b hb).1, Nat.lt_of_lt_of_le (h.ob b hb).2 t.size⟩, h.mrk.touch t fun b hb c => c.2 hb.1⟩
set_option maxRecDepth 100000 in
set_option maxHeartbeats 4000000 in
theorem under_own {w : World} {R S : Nat → Prop} {bt bb bi : Nat} {L : List Nd} {i : Int} (hL : Tr L) (hl : L.length ≤ 100000) (ar : Ar w bt S L) (kb : Blk w bb 29 #[.pointer (some ⟨bt, 0, none⟩)]) (ki : Blk w bi 3 #[.int .i64 i])
  (hR : ∀ b, S b ∨ b = bb ∨ b = bi → R b) (hlt : ∀ b, R b → b < w.heap.size) (n : Nat) (hn : 4 ≤ n) (hin : inN L.length i = true) :
  SeqOwn Fence.wide n Tryz.prog 67 #[.pointer (some ⟨bi, 0, none⟩), .pointer (some ⟨bb, 0, none⟩)] (fun k : Int => #[.int .i64 k]) R (fun ys => ys = undL L i) (fun pre => pre <+: undL L i) w := by
 intro l J Jx W hW hA hAx hY h0
 have ar0 := Ar.touch ar (Touch.of_below hW) (fun b hb e => by have := ar.lt b hb; omega)
 have kb0 := kb.below hW (hlt _ (hR _ (.inr (.inl rfl))))
 have ki0 := ki.below hW (hlt _ (hR _ (.inr (.inr rfl))))
 have hlt0 : ∀ b, R b → b < W.heap.size := fun b hb => Nat.lt_of_lt_of_le (hlt b hb) hW.size
 clear ar kb ki hlt hW
 have q1 : W.cell? ⟨bi, 0, none⟩ = some (.int .i64 i) := ki0.cell 0
 have al1 : Below W.heap.size W (W.alloc (.cells #[.int .i64 i] 3)) := (Below.refl _ _).alloc (Nat.le_refl _) _
 have al : Below W.heap.size W ((W.alloc (.cells #[.int .i64 i] 3)).alloc (.cells #[.slice (some ⟨W.heap.size, 0, none⟩) 1 1] 33)) := al1.alloc al1.size _
 obtain ⟨Wa, hWa⟩ : ∃ x, x = (W.alloc (.cells #[.int .i64 i] 3)).alloc (.cells #[.slice (some ⟨W.heap.size, 0, none⟩) 1 1] 33) := ⟨_, rfl⟩
 rw [← hWa] at al
 have ara := Ar.touch ar0 (Touch.of_size al (fun _ => False)) (fun _ _ c => c)
 have cI := arena_in ara i
 have kba := kb0.below al (hlt0 _ (hR _ (.inr (.inl rfl))))
 have kia := ki0.below al (hlt0 _ (hR _ (.inr (.inr rfl))))
 have p1 : Wa.cell? ⟨bi, 0, none⟩ = some (.int .i64 i) := kia.cell 0
 have p2 : Wa.cell? ⟨bb, 0, none⟩ = some (.pointer (some ⟨bt, 0, none⟩)) := kba.cell 0
 have kT : Blk Wa (W.heap.size + 1) 33 #[.slice (some ⟨W.heap.size, 0, none⟩) 1 1] := by
  rw [hWa]
  have := Blk.new (W.alloc (.cells #[.int .i64 i] 3)) 33 #[.slice (some ⟨W.heap.size, 0, none⟩) 1 1]
  rwa [World.size_alloc] at this
 have kA : Blk Wa W.heap.size 3 #[.int .i64 i] := by rw [hWa]; exact (Blk.new _ _ _).alloc _
 have fT := kT.frozen 0
 have cT : Wa.cell? ⟨W.heap.size + 1, 0, none⟩ = some (.slice (some ⟨W.heap.size, 0, none⟩) 1 1) := kT.cell 0
 have p1e : ((W.alloc (.cells #[.int .i64 i] 3)).alloc (.cells #[.slice (some ⟨W.heap.size, 0, none⟩) 1 1] 33)).cell? ⟨bi, 0, none⟩ = some (.int .i64 i) := by rw [← hWa]; exact p1
 have p2e : ((W.alloc (.cells #[.int .i64 i] 3)).alloc (.cells #[.slice (some ⟨W.heap.size, 0, none⟩) 1 1] 33)).cell? ⟨bb, 0, none⟩ = some (.pointer (some ⟨bt, 0, none⟩)) := by rw [← hWa]; exact p2
 have za : Wa.heap.size = W.heap.size + 2 := by rw [hWa]; simp
 have hR0 := hlt0
 have XhR0 := hide hR0
 have XhL := hide hL
 have Xar0 := hide ar0
 have Xkb0 := hide kb0
 have Xki0 := hide ki0
 have Xhlt0 := hide hlt0
 have XhA := hide hA
 have XhAx := hide hAx
 have XhY := hide hY
 have Xh0 := hide h0
 have Xal := hide al
 have Xara := hide ara
 have XcI := hide cI
 have Xkba := hide kba
 have Xkia := hide kia
 have XkT := hide kT
 have XkA := hide kA
 have Xza := hide za
 have XhR := hide hR
 clear hR0 hL ar0 kb0 ki0 hlt0 hA hAx hY h0 al ara cI kba kia kT kA za hR
 refine callsIn_of_wp_marks Tryz.func67 rfl trivial ?_ rfl
 simp only [Tryz.ntmps67, List.size_toArray, List.length_cons, List.length_nil, Nat.reduceAdd, Nat.reduceSub, Array.replicate_succ, Array.replicate_zero, List.push_toArray, List.append_toArray, List.nil_append, List.cons_append]
 gi_wp2_with fail
 rw [← hWa]
 clear hWa q1 al1 p1e p2e
 obtain ⟨g0, g1⟩ := inN_iff.1 hin
 have hund : undL L i = preO (kidsL L) i := by unfold undL; rw [if_pos hin]
 have hwt := XhL.out.wt i g0 g1
 rw [hin] at XcI
 refine ⟨trivial, fun _ => by omega, (callsIn_wide.2 XcI.out).mono ?_⟩
 rintro e w' ⟨rfl, rfl⟩
 clear XcI hin
 have Xhund := hide hund
 have Xhwt := hide hwt
 clear hund hwt
 gi_wp2_with fail
 refine loop_under (fun ds mu W' => ∃ (pre st : List Int) (O : Nat → Prop) (v : Value), UnS W W' R O (W.heap.size + 1) W.heap.size v st ds ∧ J pre O W' ∧ undL L i = pre ++ st.flatMap (preO (kidsL L)) ∧ (∀ k ∈ st, 0 ≤ k ∧ k < L.length) ∧ mu = wtS (kidsL L) st ∧ mu ≤ L.length) (wtS (kidsL L) [i]) ?_ ?_
 ·refine ⟨[], [i], fun b => W.heap.size ≤ b ∧ b < Wa.heap.size, _, ⟨(Touch.of_size Xal.out _), XkT.out, ⟨rfl, .inr ⟨W.heap.size, 1, #[.int .i64 i], rfl, Nat.le_refl _, XkA.out, Nat.le_refl _, by decide, rfl, rfl⟩⟩, ⟨by omega, by rw [Xza.out]; omega⟩, fun k e => ?_, fun b hb => hb, MkO.nil _ _⟩, ?_, ?_, ?_, rfl, ?_⟩
  ·simp only [Value.ownBlock, Option.some.injEq] at e
   subst e
   exact ⟨⟨Nat.le_refl _, by rw [Xza.out]; omega⟩, by omega⟩
  ·exact XhA.out _ _ _ _ _ Xh0.out (Touch.of_size Xal.out _) (fun b h => h.elim) (fun b h => .inr h.1)
  ·rw [Xhund.out]; simp
  ·intro k hk
   rw [List.mem_singleton] at hk
   subst hk
   exact ⟨g0, g1⟩
  ·rw [wtS_cons]; exact Xhwt.out
 ·clear XkT XkA Xh0 Xal Xara Xkba Xkia Xza p1 p2 fT cT
  intro y5 y14 y15 y16 y17 y18 y19 y20 y21 y22 y23 y24 y25 y26 y27 y28 y29 y30 y31 y32 y33 y34 y35 y36 y37 y38 y39 y40 y41 ds mu wr hrel K hK
  obtain ⟨pre, st, O, v, un, hJ, hsp, hst, rfl, hmu⟩ := hrel
  cases st with
  | nil =>
   obtain ⟨A, c, rfl, -, -⟩ := ownsRow_shape un.own
   have hbx : wr.cell? ⟨W.heap.size + 1, 0, none⟩ = some (.slice A 0 c) := un.box.cell 0
   have hall : undL L i = pre := by rw [hsp]; simp
   have Xun := hide un
   have XhJ := hide hJ
   have Xhall := hide hall
   clear un hJ hall
   clear hsp hst hmu
   gi_wp2_with fail
   refine Xun.out.mrk.leaves fun w' t => ⟨_, results_none rfl _ _ _, ⟨_, rfl⟩, .inl ⟨O, ?_⟩⟩
   rw [Xhall.out]
   exact XhA.out _ _ _ _ _ XhJ.out (t.mono fun b _ h => h.1) (fun b h => h) (fun b h => .inl h)
  | cons k st =>
   obtain ⟨g, c, rfl, hc1, hc2, ck⟩ := un.top
   unfold maxLen at hc2
   have un1 := un.pop (fun b hb => XhR0.out b hb)
   have hbx : wr.cell? ⟨W.heap.size + 1, 0, none⟩ = some (.slice (some ⟨g, 0, none⟩) (st.length + 1) c) := un.box.cell 0
   have hfx := un.box.frozen 0
   have hov := un.ov
   have hoT := un.oT
   have hJ1 := XhA.out _ _ O _ (wr.setCell ⟨W.heap.size + 1, 0, none⟩ (.slice (some ⟨g, 0, none⟩) st.length c)) hJ ((touch_set _ _ _ _).mono fun b _ e => by subst e; exact hoT) (fun b h => h) (fun b h => .inl h)
   obtain ⟨hk0, hk1⟩ := hst _ (List.mem_cons_self ..)
   obtain ⟨kn, rfl⟩ := Int.eq_ofNat_of_zero_le hk0
   have hpk : preO (kidsL L) (kn : Int) = (kn : Int) :: (ndAt L (kn : Int)).kids.flatMap (preO (kidsL L)) := by rw [preO_eq XhL.out.acyc, kidsL_at]
   have hsp2 : undL L i = (pre ++ [(kn : Int)]) ++ ((ndAt L (kn : Int)).kids ++ st).flatMap (preO (kidsL L)) := by
    rw [hsp, List.flatMap_cons, hpk, List.flatMap_append]
    simp
   have hpre : pre ++ [(kn : Int)] <+: undL L i := by rw [hsp2]; exact List.prefix_append _ _
   have hw1 : wtS (kidsL L) ((kn : Int) :: st) = wtS (kidsL L) ((ndAt L (kn : Int)).kids ++ st) + 1 := by rw [wtS_cons, wtN_eq XhL.out.acyc, kidsL_at, wtS_app]; omega
   have hst2 : ∀ j ∈ (ndAt L (kn : Int)).kids ++ st, 0 ≤ j ∧ j < L.length := fun j hj => by
    rcases List.mem_append.1 hj with h | h
    ·have := XhL.out.kid h
     exact ⟨this.1, by omega⟩
    ·exact hst j (List.mem_cons_of_mem _ h)
   obtain ⟨fn, tmps, assign, body, hy, hR1⟩ := XhY.out _ _ (kn : Int) _ hJ1 un1.ob hpre
   try dsimp only at hy
   rw [hw1] at hmu
   obtain ⟨m, hm⟩ : ∃ m, m = st.length := ⟨_, rfl⟩
   rw [← hm] at hbx ck hc1 hy hR1 un1
   clear un hJ hJ1 hsp hst hpk
   have Xun1 := hide un1
   have XhR1 := hide hR1
   have Xhsp2 := hide hsp2
   have Xhpre := hide hpre
   have Xhw1 := hide hw1
   have Xhst2 := hide hst2
   have Xhov := hide hov
   have XhoT := hide hoT
   have Xhm := hide hm
   clear un1 hR1 hsp2 hpre hw1 hst2 hov hoT hm
   have hwm : IntKind.i64.wrap ((m : Int) + 1 - 1) = (m : Int) := by rw [IntKind.wrap_i64]; omega
   have hm0 : (0 : Int) < (m : Int) + 1 := by omega
   gi_wp2_with fail
   refine ⟨fun _ => by omega, XhR1.out.mono ?_⟩
   clear XhR1
   rintro e W2 (⟨rfl, hJ2, t2⟩ | ⟨rfl, hJx2, t2⟩)
   ·have un2 := Xun1.out.round t2
    have ar2 := Ar.touch Xar0.out un2.keep (fun b hb c => c (XhR.out b (.inl hb)))
    have kb2 := Xkb0.out.touch un2.keep (fun c => c (XhR.out _ (.inr (.inl rfl))))
    have p2 : W2.cell? ⟨bb, 0, none⟩ = some (.pointer (some ⟨bt, 0, none⟩)) := kb2.cell 0
    obtain ⟨v9, M, hML, hM⟩ := ar2
    have hx := ndAt_of hk0 hk1
    rw [← hML, List.getElem?_map, Int.toNat_natCast] at hx
    obtain ⟨p, hp, hpx⟩ := Option.map_eq_some_iff.1 hx
    have hlen : M.length = L.length := by rw [← hML, List.length_map]
    obtain ⟨g9, c9, rfl, hS9, hg9, -, -, -, c3, -, -, rk⟩ := hM.at_ hp
    have p3 : W2.cell? ⟨bt, 0, none⟩ = some (.slice (some ⟨g9, 0, none⟩) M.length c9) := hM.box.cell 0
    rw [hML] at hpx
    rw [hpx] at rk
    have hkn : kn < M.length := by omega
    obtain ⟨A99, c99, h99, hcm1, hcm2⟩ := hM.shape
    injection h99 with h97 h98 h99
    subst h97 h99
    generalize M.length = n9 at *
    obtain ⟨Az, nz, cz, hz9, -⟩ := id rk
    rw [hz9] at c3 rk
    clear t2 Xun1 hM hx hp hML hlen hz9
    have Xun2 := hide un2
    have XhJ2 := hide hJ2
    have Xkb2 := hide kb2
    have Xrk := hide rk
    clear un2 hJ2 kb2 rk
    gi_wp2_with fail
    refine ⟨trivial, fun _ => by omega, (callsIn_wide.2 (arena_Backward _ _ _ _)).mono ?_⟩
    rintro e w' ⟨rfl, rfl⟩
    gi_wp2_with fail
    obtain ⟨W3, hW3⟩ : ∃ x, x = W2.alloc (.cells #[.slice Az nz cz] 33) := ⟨_, rfl⟩
    have b3 : Below W2.heap.size W2 W3 := by rw [hW3]; exact (Below.refl _ _).alloc (Nat.le_refl _) _
    have z3 : W3.heap.size = W2.heap.size + 1 := by rw [hW3]; simp
    have kz : Blk W3 W2.heap.size 33 #[.slice Az nz cz] := by rw [hW3]; exact Blk.new _ _ _
    rw [← hW3]
    clear hW3 p2 p3 c3
    have hob := Xun2.out.ob
    have hgO := (Xhov.out g rfl).1
    have hgT := (Xhov.out g rfl).2
    have hTl := (hob _ XhoT.out).2
    have hgl := hob _ hgO
    have hRl : ∀ b, R b → b < W.heap.size := XhR0.out
    have hlen2 := wtS_len XhL.out.acyc ((ndAt L (kn : Int)).kids ++ st)
    rw [List.length_append] at hlen2
    have cB := back_own (R := fun b => R b ∨ b = W2.heap.size) kz ((Rd.touch Xrk.out (Touch.of_size b3 (fun _ => False)) (fun _ _ c => c)).mono (fun b hb => .inl (XhR.out b (.inl hb.1)))) (.inr rfl) (fun b hb => by rcases hb with h | h; have := hRl b h; omega; omega) (n - 1) (by omega)
    have box3 := Xun2.out.box.below b3 hTl
    have own3 := own_below' Xun2.out.own b3
    have Xhob := hide hob
    have XhRl := hide hRl
    have Xhlen2 := hide hlen2
    have XcB := hide cB
    have Xb3 := hide b3
    have Xkz := hide kz
    have Xbox3 := hide box3
    have Xown3 := hide own3
    have XhgO := hide hgO
    clear hob hRl hlen2 cB b3 kz box3 own3 hgO
    refine wpIn_rangeFunc_ownO rfl (by omega) (gf := 92) (lb := #[.pointer (some ⟨W2.heap.size, 0, none⟩)]) rfl trivial (enters_of Tryz.func92 (by kernel_rfl) rfl) XcB.out (fun b hb => by rcases hb with h | h; have := XhRl.out b h; omega; omega) (Below.refl _ _) (fun _ => rfl)
     (fun pre2 O2 Wx => ∃ v5 : Value, Blk Wx (W.heap.size + 1) 33 #[v5] ∧ Wx.ownsRow W.heap.size 3 1 v5 (st.length + pre2.length) ((st.reverse ++ pre2.map Prod.snd).map (Value.int .i64)) ∧ Touch (fun b => b = W.heap.size + 1 ∨ b = g) W3 Wx ∧ (∀ k, v5.ownBlock = some k → (k = g ∨ W3.heap.size + 2 ≤ k) ∧ k ≠ W.heap.size + 1 ∧ ¬ O2 k) ∧ ∀ b, O2 b → W3.heap.size ≤ b)
     (fun _ _ _ _ => False) ?hI (fun _ _ _ _ _ _ h _ _ => h) ?h0
     (fun x => { tmps := #[.func (.yield l) #[] #[], .pointer (some ⟨bi, 0, none⟩), .pointer (some ⟨bb, 0, none⟩), undef, .pointer (some ⟨W.heap.size + 1, 0, none⟩), .int .i64 (kn : Int), undef, .int .i64 x.2, .int .i64 i, .slice (some ⟨W.heap.size, 0, none⟩) 1 1, .pointer (some ⟨bt, 0, none⟩), .int .i64 i, .bool true, .bool false, .slice (some ⟨g, 0, none⟩) (m + 1) c, .int .i64 ((m : Int) + 1), .bool true, .slice (some ⟨g, 0, none⟩) (m + 1) c, .slice (some ⟨g, 0, none⟩) (m + 1) c, .int .i64 ((m : Int) + 1), .int .i64 (m : Int), .pointer (some ⟨g, m, none⟩), .int .i64 (kn : Int), .slice (some ⟨g, 0, none⟩) (m + 1) c, .slice (some ⟨g, 0, none⟩) (m + 1) c, .int .i64 ((m : Int) + 1), .int .i64 (m : Int), .slice (some ⟨g, 0, none⟩) m c, .func (.yield l) #[] #[], .int .i64 (kn : Int), .bool true, .bool false, .pointer (some ⟨bt, 0, none⟩), .pointer (some ⟨bt, 0, none⟩), .pointer (some ⟨bt, 0, none⟩), .slice (some ⟨g9, 0, none⟩) n9 c9, .int .i64 (kn : Int), .pointer (some ⟨g9, kn * 6, none⟩), .pointer (some ⟨g9, kn * 6, none⟩), .pointer (some ⟨g9, kn * 6 + 3, none⟩), .slice Az nz cz, .func (.func 92) #[] #[.pointer (some ⟨W2.heap.size, 0, none⟩)], .int .i64 x.1, .int .i64 x.2, undef, undef, undef, undef], defers := [] })
     ?assign ?body ?done ?stop
    case hI =>
     rintro pre2 O1 O2 X A B ⟨v5, kb5, ow5, t5, hv5, ho5⟩ tX hX h12 h21
     have hTX : ¬ X (W.heap.size + 1) := fun c => by
      rcases hX _ c with q | q | q
      ·have := ho5 _ q; omega
      ·omega
      ·omega
     have hkX : ∀ k, v5.ownBlock = some k → ¬ X k := fun k e c => by
      obtain ⟨h1, h2, h3⟩ := hv5 k e
      rcases hX _ c with q | q | q
      ·exact h3 q
      ·rcases h1 with h1 | h1 <;> omega
      ·rcases h1 with h1 | h1 <;> omega
     have zA := t5.size
     refine ⟨v5, kb5.touch tX hTX, tX.own ow5 hkX, t5.trans tX fun b hb c => ?_, fun k e => ⟨(hv5 k e).1, (hv5 k e).2.1, fun c => ?_⟩, fun b hb => ?_⟩
     ·rcases hX _ c with q | q | q
      ·have := ho5 _ q; omega
      ·omega
      ·omega
     ·rcases h21 k c with q | q
      ·exact (hv5 k e).2.2 q
      ·have := (ow5.lt k e).2; omega
     ·rcases h21 b hb with q | q
      ·exact ho5 b q
      ·omega
    case h0 =>
     refine ⟨.slice (some ⟨g, 0, none⟩) m c, Xbox3.out, by simpa [← Xhm.out] using Xown3.out, Touch.refl _ _, fun k e => ?_, fun b h => h.elim⟩
     simp only [Value.ownBlock, Option.some.injEq] at e
     subst e
     exact ⟨.inl rfl, hgT, fun c => c⟩
    case assign =>
     intro l x Wx K hK
     gi_wp2
     exact hK
    case body =>
     rintro l2 pre2 O2 x Wx ⟨v5, kb5, ow5, t5, hv5, ho5⟩ hO hz hSp
     obtain ⟨A5, c5, rfl, hc5, hm5⟩ := ownsRow_shape ow5
     unfold maxLen at hm5
     have hpl : pre2.length + 1 ≤ (ndAt L (kn : Int)).kids.length := by
      have := hSp.length_le
      rw [bwd_len, List.length_append] at this
      exact this
     have hql := Xhlen2.out
     have p5 : Wx.cell? ⟨W.heap.size + 1, 0, none⟩ = some (.slice A5 (st.length + pre2.length) c5) := kb5.cell 0
     have al5 : Below Wx.heap.size Wx (Wx.alloc (.cells #[.int .i64 x.2] 3)) := (Below.refl _ _).alloc (Nat.le_refl _) _
     have own6 := own_below' ow5 al5
     have rone : Rd (Wx.alloc (.cells #[.int .i64 x.2] 3)) (fun _ => True) (.slice (some ⟨Wx.heap.size, 0, none⟩) 1 1) 1 ([x.2].map (Value.int .i64)) := Rd.one (w := Wx) (e := 3) ([x.2].map (Value.int .i64)) 1 rfl
     obtain ⟨q, hq⟩ : ∃ q, q = st.length + pre2.length := ⟨_, rfl⟩
     rw [← hq] at p5 own6 hv5
     have hq2 : q ≤ 100000 := by omega
     have hbase : W.heap.size ≤ (Wx.alloc (.cells #[.int .i64 x.2] 3)).heap.size := by have := t5.size; have := al5.size; omega
     have hlt5 := ow5.lt
     rw [← hq] at hlt5
     clear hpl hql
     have Xkb5 := hide kb5
     have Xow5 := hide ow5
     have Xt5 := hide t5
     have Xhv5 := hide hv5
     have Xho5 := hide ho5
     have XhO := hide hO
     have Xal5 := hide al5
     have Xown6 := hide own6
     have Xrone := hide rone
     have Xhq := hide hq
     have Xhlt5 := hide hlt5
     clear kb5 ow5 t5 hv5 ho5 hO al5 own6 rone hq hlt5
     gi_wp2_with (gi_at_builtin; refine wpListIn_appendA _ rfl (.tmp 44) (.tmp 46) _ rfl Tryz.elemInt W.heap.size (.slice A5 q c5) q _ rfl Xown6.out _ _ ([x.2].map (Value.int .i64)) 1 rfl rfl Xrone.out (ints_one [x.2]) (by unfold maxLen; omega) (by omega) hbase ?_)
     intro A6 c6 w6 own7 g6 ho6
     have t6 : Touch (fun b => (Value.slice A5 q c5).ownBlock = some b) Wx w6 := (Touch.of_size Xal5.out _).trans' ((Touch.refl _ _).grown g6 (fun k e _ => e))
     have z6 : Wx.heap.size + 1 ≤ w6.heap.size := by have := g6.size; simpa using this
     have kb6 := Xkb5.out.touch t6 (fun e => (Xhv5.out _ e).2.1 rfl)
     rw [← Xhq.out] at kb6
     have p6 : w6.cell? ⟨W.heap.size + 1, 0, none⟩ = some (.slice A5 q c5) := kb6.cell 0
     have f6 := kb6.frozen 0
     have k8 := kb6.put 0 (.slice A6 (q + 1) c6)
     have hv6 : ∀ k, (Value.slice A6 (q + 1) c6).ownBlock = some k → (k = g ∨ W3.heap.size + 2 ≤ k) ∧ k ≠ W.heap.size + 1 ∧ ¬ O2 k := fun k e => by
      rcases ho6 with h | h
      ·exact Xhv5.out k (h ▸ e)
      ·rw [h] at e
       injection e with e
       subst e
       exact ⟨.inr (by omega), by omega, fun c => by have := (XhO.out _ c).2; omega⟩
     replace own7 : w6.ownsRow W.heap.size 3 1 (.slice A6 (q + 1) c6) (q + 1) ((st.reverse ++ (pre2 ++ [x]).map Prod.snd).map (Value.int .i64)) := by simpa using own7
     have tS : Touch (fun b => b = W.heap.size + 1) w6 (w6.setCell ⟨W.heap.size + 1, 0, none⟩ (.slice A6 (q + 1) c6)) := touch_set _ _ _ _
     have own8 := tS.own own7 fun k e => (hv6 k e).2.1
     have hq8 : q + 1 = st.length + (pre2 ++ [x]).length := by rw [Xhq.out, List.length_append]; rfl
     have tA : Touch (fun b => ¬ (R b ∨ b = W2.heap.size) ∧ ¬ O2 b ∧ b ≠ W3.heap.size ∧ b ≠ W3.heap.size + 1) Wx (w6.setCell ⟨W.heap.size + 1, 0, none⟩ (.slice A6 (q + 1) c6)) := by
      refine (t6.mono fun k hk e => ?_).trans' (tS.mono fun k hk e => ?_)
      ·obtain ⟨h1, h2, h3⟩ := Xhv5.out k e
       refine ⟨fun c => ?_, h3, by rcases h1 with h1 | h1 <;> omega, by rcases h1 with h1 | h1 <;> omega⟩
       rcases c with c | c
       ·have := XhRl.out k c
        have := (Xhlt5.out k e).1
        omega
       ·rcases h1 with h1 | h1 <;> omega
      ·subst e
       refine ⟨fun c => ?_, fun c => by have := (XhO.out _ c).1; omega, by omega, by omega⟩
       rcases c with c | c
       ·have := XhRl.out _ c; omega
       ·omega
     have tB : Touch (fun b => b = W.heap.size + 1 ∨ b = g) W3 (w6.setCell ⟨W.heap.size + 1, 0, none⟩ (.slice A6 (q + 1) c6)) := by
      refine (Xt5.out.trans t6 fun k hk e => ?_).trans tS fun k hk e => .inl e
      rcases (Xhv5.out k e).1 with h1 | h1
      ·exact .inr h1
      ·omega
     have own9 : (w6.setCell ⟨W.heap.size + 1, 0, none⟩ (.slice A6 (q + 1) c6)).ownsRow W.heap.size 3 1 (.slice A6 (q + 1) c6) (st.length + (pre2 ++ [x]).length) ((st.reverse ++ (pre2 ++ [x]).map Prod.snd).map (Value.int .i64)) := by rw [← hq8]; exact own8
     have F := And.intro tA (And.intro k8 (And.intro own9 (And.intro tB hv6)))
     clear own7 g6 ho6 t6 kb6 k8 hv6 tS own8 own9 hq8 tA tB Xkb5 Xow5 Xt5 Xhv5 Xal5 Xown6 Xrone Xhlt5
     have XF := hide F
     clear F
     gi_wp2_with fail
     obtain ⟨f1, f2, f3, f4, f5⟩ := XF.out
     exact ⟨f1, _, f2, f3, f4, f5, Xho5.out⟩
    case done =>
     rintro D xs O2 Wx hD rfl ⟨v5, kb5, ow5, t5, hv5, ho5⟩ hDm
     have ub := Xun2.out
     have hDlt : D < Wx.heap.size := (Array.getElem?_eq_some_iff.1 hDm).1
     have b23 := Xb3.out
     have t23 : Touch (fun b => b = W.heap.size + 1 ∨ b = g) W2 Wx := (Touch.of_size b23 _).trans t5 fun _ _ h => h
     have e5 : st.reverse ++ (bwd (ndAt L (kn : Int)).kids).map Prod.snd = ((ndAt L (kn : Int)).kids ++ st).reverse := by rw [bwd_snd, List.reverse_append]
     have l5 : st.length + (bwd (ndAt L (kn : Int)).kids).length = ((ndAt L (kn : Int)).kids ++ st).length := by rw [bwd_len, List.length_append]; omega
     rw [e5, l5] at ow5
     have hgO := XhgO.out
     have hoT := XhoT.out
     have hob := Xhob.out
     have unF : UnS W Wx R (fun b => O b ∨ (W2.heap.size ≤ b ∧ b < Wx.heap.size)) (W.heap.size + 1) W.heap.size v5 ((ndAt L (kn : Int)).kids ++ st) (mark D :: ds) := by
      refine ⟨ub.keep.trans t23 fun b hb h hr => ?_, kb5, ow5, .inl hoT, fun k e => ⟨?_, (hv5 k e).2.1⟩, fun b hb => ?_, ?_⟩
      ·have := XhRl.out b hr
       rcases h with h | h <;> omega
      ·rcases (hv5 k e).1 with h | h
       ·exact .inl (h ▸ hgO)
       ·exact .inr ⟨by omega, (ow5.lt k e).2⟩
      ·rcases hb with h | h
       ·exact ⟨(hob b h).1, Nat.lt_of_lt_of_le (hob b h).2 t23.size⟩
       ·exact ⟨by omega, h.2⟩
      ·refine (ub.mrk.mono' (O' := fun b => O b ∧ b ≠ W.heap.size + 1 ∧ b ≠ g) fun b h => ⟨h.1, h.2.1, fun e => h.2.2 (by rw [e]; rfl)⟩).cons (fun D' h hd => (t23.block D' (hob D' h.1).2 (fun c => by rcases c with c | c; exact h.2.1 c; exact h.2.2 c)).trans hd) (fun b h => ⟨.inl h.1, h.2.1, fun e => ?_⟩) ⟨.inr ⟨by omega, hDlt⟩, by omega, own_not_mark ow5 hDm⟩ (by omega) hDm
       have := hob b h.1
       rcases (hv5 b e).1 with q | q
       ·exact h.2.2 q
       ·omega
     have hJ5 := XhA.out _ _ (fun b => O b ∨ (W2.heap.size ≤ b ∧ b < Wx.heap.size)) _ _ XhJ2.out (t23.mono fun b _ h => by rcases h with rfl | rfl; exact hoT; exact hgO) (fun b h => .inl h) (fun b h => by rcases h with h | h; exact .inl h; exact .inr h.1)
     clear kb5 ow5 t5 hv5 ho5 ub t23 e5 l5
     have XunF := hide unF
     have XhJ5 := hide hJ5
     clear unF hJ5
     gi_wp2_with fail
     refine HandE.mk ⟨_, _, _, _, _, _, _, _, _, _, _, _, _, _, _, _, _, _, _, _, _, _, _, _, _, _, _, _, _, _, _, ⟨_, _, _, _, XunF.out, XhJ5.out, Xhsp2.out, Xhst2.out, rfl, by omega⟩, by rw [Xhw1.out]; exact Nat.lt_succ_self _, rfl⟩
    case stop =>
     intro D c pre2 O2 Wx hD hSp h
     exact h.elim
   ·have un2 := Xun1.out.round t2
    clear Xun1 t2
    have Xun2 := hide un2
    have XhJx2 := hide hJx2
    clear un2 hJx2
    gi_wp2_with fail
    refine Xun2.out.mrk.leaves fun w' t => ⟨_, results_none rfl _ _ _, ⟨_, rfl⟩, .inr ⟨_, O, Xhpre.out, ?_⟩⟩
    exact XhAx.out _ _ _ _ XhJx2.out (t.mono fun b _ h => h.1)
end Go.Proofs.YtacankgalkffmaaGreat
