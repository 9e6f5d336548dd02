/- The readers of the ways: the program's and the reference's. -/
import Derived.Test.YtlpokomfljmogaaGreatRoute4
import Derived.Test.YtlpokomfljmogaaGreatOpenZ
namespace Go.Proofs.YtlpokomfljmogaaGreat
set_option linter.unusedVariables false
section
set_option linter.unusedSimpArgs false
open Go.RowKit
attribute [local irreducible] wpStill wpOne wpPh
theorem eql_ints_nil (A : Option Addr) (n c : Nat) (w : World) : Sem.run Tryz.prog (binOp .eql 51 (.slice A n c) (.slice none 0 0)) w = .ok (.bool A.isNone) w := by
 have := Lib.run_eql_slice_nil (P := Tryz.prog) w 51 3 A n c 0 0 Tryz.underlying51
 cases A <;> simpa using this
theorem ints_one (xs : List Int) : ∀ u ∈ xs.map (Value.int .i64), u.oneCell' = true := by
 intro u hu; obtain ⟨x, -, rfl⟩ := List.mem_map.1 hu; rfl
theorem clone_ints {w : World} {F : Nat → Prop} {v : Value} {xs : List Int} (h : RdI w F v xs) (hl : xs.length ≤ 65536) :
  Calls Tryz.prog 81 #[v] w fun e w' => ∃ A c, e = .returned (.slice A xs.length c) ∧ w'.ownsRow w.heap.size 3 1 (.slice A xs.length c) xs.length (xs.map (Value.int .i64)) ∧ Below w.heap.size w w' := by
 obtain ⟨A, m, c, rfl, hnc, hcm, hm, hcell⟩ := id h
 have hm' : m = xs.length := (RdI.at_ h).1
 have hnil := eql_ints_nil A m c
 rcases A with _ | ad
 ·obtain rfl : m = 0 := by
   rcases Nat.eq_zero_or_pos m with h0 | h0
   ·exact h0
   ·obtain ⟨_, _, hA, _⟩ := hcell h0; cases hA
  obtain rfl : xs = [] := List.eq_nil_of_length_eq_zero (by omega)
  clear hl h hcell hm hm'
  go_enter Tryz.func81, Tryz.ntmps81
  go_wp2_with fail
  go_ret
  exact ⟨none, 0, rfl, World.ownsRow_nil _ _ _ _, Below.refl _ _⟩
 ·rw [← hm'] at hl
  have H := hide h
  have HN := hide hm
  have HM := hide hm'
  clear h hcell hm hm'
  go_enter Tryz.func81, Tryz.ntmps81
  go_wp2_with (at_builtin; refine wp_append _ rfl (.tmp 5) (.tmp 6) _ rfl Tryz.elemInt w.heap.size _ 0 [] rfl (World.ownsRow_made w #[] 0 (Nat.le_refl _) (by decide) rfl) _ _ (xs.map (Value.int .i64)) m rfl HN.out (H.out.touch ((Touch.refl (fun _ => False) _).alloc _) (fun _ _ hf => hf)) (ints_one xs) (by unfold maxLen; omega) (by omega) (by simp) ?_)
  intro A c2 w2 hown hg _
  go_wp2_with fail
  go_ret
  refine ⟨A, c2, by rw [← HM.out]; simp, ?_, (((Below.refl _ w).alloc (Nat.le_refl _) _).grown hg (by simp) (fun k e => by simp [Value.ownBlock] at e; omega))⟩
  rw [← HM.out]; simpa using hown
def OutRd (w : World) (p : Bool × List Int) (e : Ending) (w' : World) : Prop := ∃ A n c, e = .returned (.tuple #[.slice A n c, .bool p.1]) ∧ RdI w' (fun k => k < w'.heap.size) (.slice A n c) p.2 ∧ Below w.heap.size w w'
def OutOwn (w : World) (p : Bool × List Int) (e : Ending) (w' : World) : Prop := ∃ A n c, e = .returned (.tuple #[.slice A n c, .bool p.1]) ∧ w'.ownsRow w.heap.size 3 1 (.slice A n c) n (p.2.map (Value.int .i64)) ∧ Below w.heap.size w w'
theorem OutOwn.rd {w w' : World} {p : Bool × List Int} {e : Ending} (h : OutOwn w p e w') : OutRd w p e w' := by
 obtain ⟨A, n, c, h1, h2, h3⟩ := h
 exact ⟨A, n, c, h1, (Rd.of_own h2).mono (fun q hq => (h2.lt q hq).2), h3⟩
theorem OutOwn.no (w : World) {w' : World} (hb : Below w.heap.size w w') {p : Bool × List Int} (hp : p = (false, [])) : OutOwn w p (.returned (.tuple #[.slice none 0 0, .bool false])) w' := by subst hp; exact ⟨none, 0, 0, rfl, World.ownsRow_nil _ _ _ _, hb⟩
theorem OutRd.no (w : World) {w' : World} (hb : Below w.heap.size w w') {p : Bool × List Int} (hp : p = (false, [])) : OutRd w p (.returned (.tuple #[.slice none 0 0, .bool false])) w' := (OutOwn.no w hb hp).rd
def RtIs (V : World) (a : Option Addr) (S : List FoundD) (L : List (List Int)) : Prop := (a = none ∧ L = []) ∨ ∃ R T, a = some ⟨R, 0, none⟩ ∧ RoutesIn V R S L ∧ GoodS T S
def RRtIs (V : World) (a : Option Addr) (S : List FoundD) (L : List (List Int)) : Prop := (a = none ∧ L = []) ∨ ∃ R T, a = some ⟨R, 0, none⟩ ∧ RRoutesIn V R S L ∧ GoodS T S
section
variable {V V' : World} {a : Option Addr} {S : List FoundD} {L : List (List Int)}
theorem RtIs.below (h : RtIs V a S L) (b : Below V.heap.size V V') : RtIs V' a S L := by
 rcases h with h | ⟨R, T, h1, ⟨F, B, P, n, pw, rc, h2, h3⟩, h4⟩
 ·exact .inl h
 ·exact .inr ⟨R, T, h1, ⟨F, B, P, n, pw, rc.below b, h2, h3⟩, h4⟩
theorem RRtIs.below (h : RRtIs V a S L) (b : Below V.heap.size V V') : RRtIs V' a S L := by
 rcases h with h | ⟨R, T, h1, ⟨F, P, Q, n, pw, rx, h2, h3⟩, h4⟩
 ·exact .inl h
 ·exact .inr ⟨R, T, h1, ⟨F, P, Q, n, pw, rx.below b, h2, h3⟩, h4⟩
theorem route_Len (h : RtIs V a S L) : Calls Tryz.prog 34 #[.pointer a] V fun e w' => e = .returned (.int .i64 (L.length : Int)) ∧ V = w' := by
 rcases h with ⟨rfl, rfl⟩ | ⟨R, T, rfl, ⟨F, B, P, n, pw, rc, h2, h3, -⟩, -⟩
 ·go_enter Tryz.func34, Tryz.ntmps34
  go_wp2_with fail
  go_ret
  exact ⟨rfl, rfl⟩
 ·have c0 := rc.cells.2.1
  clear rc
  have Xh2 := hide h2
  clear h2
  rw [h3]
  clear h3
  go_enter Tryz.func34, Tryz.ntmps34
  go_wp2_with fail
  go_ret
  exact ⟨rfl, rfl⟩
theorem ref16_Len (h : RRtIs V a S L) : Calls Tryz.prog 38 #[.pointer a] V fun e w' => e = .returned (.int .i64 (L.length : Int)) ∧ V = w' := by
 rcases h with ⟨rfl, rfl⟩ | ⟨R, T, rfl, ⟨F, P, Q, n, pw, rx, h2, h3, -⟩, -⟩
 ·go_enter Tryz.func38, Tryz.ntmps38
  go_wp2_with fail
  go_ret
  exact ⟨rfl, rfl⟩
 ·have c0 := rx.cells.1
  clear rx
  have Xh2 := hide h2
  clear h2
  rw [h3]
  clear h3
  go_enter Tryz.func38, Tryz.ntmps38
  go_wp2_with fail
  go_ret
  exact ⟨rfl, rfl⟩
set_option maxHeartbeats 1000000 in
theorem route_Way (h : RtIs V a S L) (i : Int) : Calls Tryz.prog 35 #[.pointer a, .int .i64 i] V (OutOwn V (wayR L i)) := by
 have hl := route_Len h
 by_cases h0 : i < 0
 ·have hno := OutOwn.no V (Below.refl _ V) (wayR_out (L := L) (i := i) (by omega))
  clear h
  have Xhl := hide hl
  have Xhno := hide hno
  clear hl hno
  go_enter Tryz.func35, Tryz.ntmps35
  go_wp2_with fail
  go_ret2
  exact Xhno.out
 ·have h0' : 0 ≤ i := by omega
  obtain ⟨n, hn⟩ : ∃ n, n = L.length := ⟨_, rfl⟩
  by_cases h1 : i < (n : Int)
  ·obtain ⟨k, rfl⟩ := Int.eq_ofNat_of_zero_le h0'
   obtain ⟨l, hk⟩ : ∃ l, L[k]? = some l := ⟨_, List.getElem?_eq_getElem (by omega)⟩
   rcases h with ⟨rfl, rfl⟩ | ⟨R, T, rfl, ⟨F, B, P, n', pw, rc, h2, h3, h5⟩, -⟩
   ·cases hk
   ·obtain rfl : n = n' := by omega
    have c0 := rc.cells.2.1
    obtain ⟨g, off, m, c, c1, rd⟩ := rc.ways.row k l (by rw [List.getElem?_map, hk]; rfl)
    have cc := clone_ints rd (Nat.le_trans (h5 l (List.mem_of_getElem? hk)) (by decide))
    have hw := wayR_in hk
    rw [← hn] at hl
    clear rc rd h5 h3 hk hn
    have Xhl := hide hl
    have Xcc := hide cc
    have Xhw := hide hw
    clear hl cc hw
    go_enter Tryz.func35, Tryz.ntmps35
    go_wp2_with fail
    refine Xhl.out.mono ?_
    rintro e w' ⟨rfl, rfl⟩
    go_wp2_with fail
    refine Xcc.out.mono ?_
    rintro e w' ⟨A, c', rfl, own, b⟩
    have Xown := hide own
    have Xb := hide b
    clear own b
    go_wp2_with fail
    go_ret2
    rw [Xhw.out]
    exact ⟨A, _, c', rfl, Xown.out, Xb.out⟩
  ·have h1' : (n : Int) ≤ i := by omega
   have hno := OutOwn.no V (Below.refl _ V) (wayR_out (L := L) (i := i) (by omega))
   rw [← hn] at hl
   clear h hn
   have Xhl := hide hl
   have Xhno := hide hno
   clear hl hno
   go_enter Tryz.func35, Tryz.ntmps35
   go_wp2_with fail
   refine Xhl.out.mono ?_
   rintro e w' ⟨rfl, rfl⟩
   go_wp2_with fail
   go_ret2
   exact Xhno.out
set_option maxHeartbeats 1000000 in
theorem ref16_Way (h : RRtIs V a S L) (i : Int) : Calls Tryz.prog 39 #[.pointer a, .int .i64 i] V fun e w' => V = w' ∧ OutRd V (wayR L i) e w' := by
 have hl := ref16_Len h
 by_cases h0 : i < 0
 ·have hno := OutRd.no V (Below.refl _ V) (wayR_out (L := L) (i := i) (by omega))
  clear h
  have Xhl := hide hl
  have Xhno := hide hno
  clear hl hno
  go_enter Tryz.func39, Tryz.ntmps39
  go_wp2_with fail
  go_ret2
  exact ⟨rfl, Xhno.out⟩
 ·have h0' : 0 ≤ i := by omega
  obtain ⟨n, hn⟩ : ∃ n, n = L.length := ⟨_, rfl⟩
  by_cases h1 : i < (n : Int)
  ·obtain ⟨k, rfl⟩ := Int.eq_ofNat_of_zero_le h0'
   obtain ⟨l, hk⟩ : ∃ l, L[k]? = some l := ⟨_, List.getElem?_eq_getElem (by omega)⟩
   rcases h with ⟨rfl, rfl⟩ | ⟨R, T, rfl, ⟨F, P, Q, n', pw, rx, h2, h3, h5⟩, -⟩
   ·cases hk
   ·obtain rfl : n = n' := by omega
    have c0 := rx.cells.1
    obtain ⟨A, m, c, c1, rd⟩ := rx.ways.row k _ (by rw [List.getElem?_map, hk]; rfl)
    have rd := (rd l rfl).mono (F' := fun b => b < V.heap.size) rx.flt
    have hw := wayR_in hk
    rw [← hn] at hl
    clear rx h5 h3 hk hn
    have Xhl := hide hl
    have Xhw := hide hw
    have Xrd := hide rd
    clear hl hw rd
    go_enter Tryz.func39, Tryz.ntmps39
    go_wp2_with fail
    refine Xhl.out.mono ?_
    rintro e w' ⟨rfl, rfl⟩
    go_wp2_with fail
    go_ret2
    rw [Xhw.out]
    exact ⟨rfl, A, _, c, rfl, Xrd.out, Below.refl _ _⟩
  ·have h1' : (n : Int) ≤ i := by omega
   have hno := OutRd.no V (Below.refl _ V) (wayR_out (L := L) (i := i) (by omega))
   rw [← hn] at hl
   clear h hn
   have Xhl := hide hl
   have Xhno := hide hno
   clear hl hno
   go_enter Tryz.func39, Tryz.ntmps39
   go_wp2_with fail
   refine Xhl.out.mono ?_
   rintro e w' ⟨rfl, rfl⟩
   go_wp2_with fail
   go_ret2
   exact ⟨rfl, Xhno.out⟩
theorem wayR_mem {L : List (List Int)} {i : Int} (h : (wayR L i).1 = true) : (wayR L i).2 ∈ L ∨ (wayR L i).2 = [] := by
 unfold wayR at h ⊢
 split
 ·rename_i hc
  simp only
  cases e : L[i.toNat]? with
  | none => exact .inr rfl
  | some l => exact .inl (List.mem_of_getElem? e)
 ·exact .inr rfl
set_option maxHeartbeats 1000000 in
theorem route_Text (h : RtIs V a S L) (i : Int) : Calls Tryz.prog 40 #[.pointer a, .int .i64 i] V (OutOwn V (textR L S i)) := by
 have cw := route_Way h i
 obtain ⟨p, hp⟩ : ∃ p, p = wayR L i := ⟨_, rfl⟩
 rcases p with ⟨p1, l⟩
 cases p1 with
 | false =>
  have ht : textR L S i = (false, []) := by unfold textR; rw [← hp]; rfl
  rw [← hp] at cw
  clear h hp
  have Xcw := hide cw
  have Xht := hide ht
  clear cw ht
  go_enter Tryz.func40, Tryz.ntmps40
  go_wp2_with fail
  refine Xcw.out.mono ?_
  rintro e w2 ⟨A, n, c, rfl, own, b⟩
  have hno := OutOwn.no V b Xht.out
  have Xown := hide own
  have Xb := hide b
  have Xhno := hide hno
  clear own b hno
  go_wp2_with fail
  go_ret2
  exact Xhno.out
 | true =>
  have ht : textR L S i = ((joinOf S l).is && !(joinOf S l).long, (joinOf S l).l) := by unfold textR; rw [← hp]; rfl
  rw [← hp] at cw
  rcases h with ⟨rfl, rfl⟩ | ⟨R, T, rfl, ⟨F, B, P, n', pw, rc, h2, h3, h5⟩, hg⟩
  ·rw [wayR_out (by simp)] at hp; cases hp
  ·obtain ⟨b0, g0, Fw, rfl, ws, -⟩ := id rc.wd
   have c1 := rc.cells.2.2
   have cl : ∀ wr, Below V.heap.size V wr → ∀ v, RdI wr (fun k => k < wr.heap.size) v l → Calls Tryz.prog 85 #[.pointer (some ⟨b0, 0, none⟩), v] wr (LineOwn wr (joinOf S l)) := fun wr hb v hv => least_line_own (ws.below hb) hv (fun k h => h) (fun k => (jTo_good hg _).1)
   have hR := rc.st.lt
   clear hp rc ws h5 h3
   have Xcw := hide cw
   have Xht := hide ht
   have Xcl := hide cl
   clear cw ht cl
   go_enter Tryz.func40, Tryz.ntmps40
   go_wp2_with fail
   refine Xcw.out.mono ?_
   rintro e w2 ⟨A, n, c, rfl, own, b⟩
   have c1' := (b.cell (p := ⟨R, 1, none⟩) hR).trans c1
   have cl2 := Xcl.out w2 b _ ((Rd.of_own own).mono (fun q hq => (own.lt q hq).2))
   have hs := b.size
   clear own c1
   have Xb := hide b
   have Xcl2 := hide cl2
   have Xhs := hide hs
   clear b cl2 hs
   go_wp2_with fail
   refine Xcl2.out.mono ?_
   rintro e w3 ⟨A3, n3, c3, rfl, own3, b3⟩
   have hb := Xb.out.trans (b3.mono Xhs.out)
   have own4 := ownsRow_base own3 (fun q hq => Nat.le_trans Xhs.out (own3.lt q hq).1)
   clear own3 b3
   have Xhb := hide hb
   have Xown4 := hide own4
   clear hb own4
   go_wp2_with fail
   go_ret2
   rw [Xht.out]
   exact ⟨A3, n3, c3, rfl, Xown4.out, Xhb.out⟩
set_option maxHeartbeats 1000000 in
theorem ref16_Text (h : RRtIs V a S L) (i : Int) : Calls Tryz.prog 41 #[.pointer a, .int .i64 i] V (OutRd V (textR L S i)) := by
 have cw := ref16_Way h i
 obtain ⟨p, hp⟩ : ∃ p, p = wayR L i := ⟨_, rfl⟩
 rcases p with ⟨p1, l⟩
 cases p1 with
 | false =>
  have ht : textR L S i = (false, []) := by unfold textR; rw [← hp]; rfl
  rw [← hp] at cw
  clear h hp
  have Xcw := hide cw
  have Xht := hide ht
  clear cw ht
  go_enter Tryz.func41, Tryz.ntmps41
  go_wp2_with fail
  refine Xcw.out.mono ?_
  rintro e w2 ⟨rfl, A, n, c, rfl, rd, b⟩
  have hno := OutRd.no V b Xht.out
  have Xrd := hide rd
  have Xb := hide b
  have Xhno := hide hno
  clear rd b hno
  go_wp2_with fail
  go_ret2
  exact Xhno.out
 | true =>
  have ht : textR L S i = ((joinOf S l).is && !(joinOf S l).long, (joinOf S l).l) := by unfold textR; rw [← hp]; rfl
  rw [← hp] at cw
  rcases h with ⟨rfl, rfl⟩ | ⟨R, T, rfl, ⟨F, P, Q, n', pw, rx, h2, h3, h5⟩, hg⟩
  ·rw [wayR_out (by simp)] at hp; cases hp
  ·obtain ⟨b0, gl, gi, gm, Fw, rfl, ws, -⟩ := id rx.wd
   have c1 := rx.cells.2
   have cl : ∀ v, RdI V (fun k => k < V.heap.size) v l → Calls Tryz.prog 86 #[.pointer (some ⟨b0, 0, none⟩), v] V (LinePost V (joinOf S l)) := fun v hv => ref_line ws hv (fun k h => h) (fun k => (jTo_good hg _).1)
   clear hp rx ws h5 h3
   have Xcw := hide cw
   have Xht := hide ht
   have Xcl := hide cl
   clear cw ht cl
   go_enter Tryz.func41, Tryz.ntmps41
   go_wp2_with fail
   refine Xcw.out.mono ?_
   rintro e w2 ⟨rfl, A, n, c, rfl, rd, b⟩
   have cl2 := Xcl.out _ rd
   clear rd
   have Xb := hide b
   have Xcl2 := hide cl2
   clear b cl2
   go_wp2_with fail
   refine Xcl2.out.mono ?_
   rintro e w3 ⟨A3, n3, c3, rfl, rd3, b3⟩
   have rd4 := rd3.mono (F' := fun k => k < w3.heap.size) (fun k hk => hk.2)
   clear rd3
   have Xb3 := hide b3
   have Xrd4 := hide rd4
   clear b3 rd4
   go_wp2_with fail
   go_ret2
   rw [Xht.out]
   exact ⟨A3, n3, c3, rfl, Xrd4.out, Xb3.out⟩
end
end
section
set_option linter.unusedSimpArgs false
open Go.RowKit
attribute [local irreducible] wpStill wpOne wpPh
section
variable {V V' : World} {a : Option Addr} {S : List FoundD} {L : List (List Int)}
theorem textR_len (h : RtIs V a S L ∨ RRtIs V a S L) (i : Int) : (textR L S i).2.length ≤ 4096 := by
 have key : (∃ T, GoodS T S) ∨ L = [] := by
  rcases h with (⟨-, h⟩ | ⟨_, T, -, -, h⟩) | (⟨-, h⟩ | ⟨_, T, -, -, h⟩)
  ·exact .inr h
  ·exact .inl ⟨T, h⟩
  ·exact .inr h
  ·exact .inl ⟨T, h⟩
 rcases key with ⟨T, h⟩ | rfl
 ·unfold textR
  split
  ·exact joinOf_len h _
  ·simp
 ·unfold textR
  rw [wayR_out (by simp)]
  simp
set_option maxHeartbeats 2000000 in
theorem route_Witness (h : RtIs V a S L) (st tm : Int) (u1 u2 u3 u4 : Value) : Calls Tryz.prog 43 #[.pointer a, .agg #[.int .i64 st, .int .i64 tm, u1, u2, u3, u4]] V (OutOwn V (witR L S st tm)) := by
 obtain ⟨w1, hw1⟩ : ∃ q, q = V.alloc (.cells #[.int .i64 st, .int .i64 tm, u1, u2, u3, u4] 63) := ⟨_, rfl⟩
 have b1 : Below V.heap.size V w1 := by rw [hw1]; exact (Below.refl _ _).alloc (Nat.le_refl _) _
 have k1 : Blk w1 V.heap.size 63 #[.int .i64 st, .int .i64 tm, u1, u2, u3, u4] := by rw [hw1]; exact Blk.new _ _ _
 have ct := route_Text (h.below b1) st
 have hl := textR_len (.inl h) st
 have hno : (textR L S st).1 = false → (textR L S st).2 = [] := textR_no
 have hW : witR L S st tm = if (textR L S st).1 = true ∧ tm ≠ 0 then (true, (textR L S st).2 ++ [tm]) else textR L S st := rfl
 generalize textR L S st = p at *
 obtain ⟨p1, l⟩ := p
 have c0 := (k1.cell 0).trans rfl
 have c1 := (k1.cell 1).trans rfl
 rw [hw1] at c0
 have hz := k1.lt
 clear h
 have Xct := hide ct
 have Xb1 := hide b1
 have Xhl := hide hl
 have Xhno := hide hno
 have XhW := hide hW
 have Xhz := hide hz
 clear ct b1 hl hno hW hz
 go_enter Tryz.func43, Tryz.ntmps43
 go_wp2_with fail
 rw [← hw1]
 refine Xct.out.mono ?_
 rintro e w2 ⟨A, n, c, rfl, own, b2⟩
 have c1' := (b2.cell (p := ⟨V.heap.size, 1, none⟩) Xhz.out).trans c1
 have hs1 := Xb1.out.size
 have bb := Xb1.out.trans (b2.mono hs1)
 have own1 := ownsRow_base own (fun q hq => Nat.le_trans hs1 (own.lt q hq).1)
 have hn : n = l.length := by have := (RdI.at_ (Rd.of_own own)).1; exact this
 clear c0 c1 k1 hw1 own b2 hs1 Xct Xb1 Xhz
 cases p1 with
 | false =>
  have hw : witR L S st tm = (false, l) := by rw [XhW.out, if_neg (fun e => by cases e.1)]
  have Xhn := hide hn
  have Xbb := hide bb
  have Xown1 := hide own1
  have Xhw := hide hw
  clear hn bb own1 hw
  go_wp2_with fail
  go_ret2
  rw [Xhw.out]
  exact ⟨A, n, c, rfl, Xown1.out, Xbb.out⟩
 | true =>
  by_cases htm : tm = 0
  ·have hw : witR L S st tm = (true, l) := by rw [XhW.out, if_neg (fun e => e.2 htm)]
   subst htm
   have Xhn := hide hn
   have Xbb := hide bb
   have Xown1 := hide own1
   have Xhw := hide hw
   clear hn bb own1 hw
   go_wp2_with fail
   go_ret2
   rw [Xhw.out]
   exact ⟨A, n, c, rfl, Xown1.out, Xbb.out⟩
  ·have hw : witR L S st tm = (true, l ++ [tm]) := by rw [XhW.out, if_pos ⟨rfl, htm⟩]
   have htm' : (tm == 0) = false := by simpa using htm
   have hlm : n ≤ 4096 := by rw [hn]; exact Xhl.out
   have al : Below w2.heap.size w2 (w2.alloc (.cells #[.int .i64 tm] 3)) := (Below.refl _ _).alloc (Nat.le_refl _) _
   have own2 := own_alloc own1 (.cells #[.int .i64 tm] 3)
   have bb2 := bb.trans (al.mono bb.size)
   have hsz := bb2.size
   have rone : RdI (w2.alloc (.cells #[.int .i64 tm] 3)) (fun b => b = w2.heap.size) (.slice (some ⟨w2.heap.size, 0, none⟩) 1 1) [tm] := Rd.of_blk (us := [Value.int .i64 tm]) (Blk.new _ _ _) rfl rfl (by decide)
   clear own1 bb al
   have Xhn := hide hn
   have Xown2 := hide own2
   have Xbb2 := hide bb2
   have Xhw := hide hw
   have Xrone := hide rone
   have Xhsz := hide hsz
   clear hn own2 bb2 hw rone hsz
   go_wp2_with (at_builtin; refine wp_append _ rfl (.tmp 24) (.tmp 27) _ rfl Tryz.elemInt V.heap.size _ n (l.map (Value.int .i64)) rfl Xown2.out _ _ [.int .i64 tm] 1 rfl rfl Xrone.out (by intro u hu; obtain rfl := List.mem_singleton.1 hu; rfl) (by unfold maxLen; omega) (by omega) Xhsz.out ?_)
   intro A9 c9 w9 o9 gr9 hb9
   have bb3 := Xbb2.out.grown gr9 Xhsz.out (fun q hq => (Xown2.out.lt q hq).1)
   clear gr9 hb9
   have Xo9 := hide o9
   have Xbb3 := hide bb3
   clear o9 bb3
   go_wp2_with fail
   go_ret2
   rw [Xhw.out]
   exact ⟨A9, n + 1, c9, rfl, by rw [List.map_append]; exact Xo9.out, Xbb3.out⟩
set_option maxHeartbeats 4000000 in
theorem ref16_Witness (h : RRtIs V a S L) (st tm : Int) (u1 u2 u3 u4 : Value) : Calls Tryz.prog 44 #[.pointer a, .agg #[.int .i64 st, .int .i64 tm, u1, u2, u3, u4]] V (OutRd V (witR L S st tm)) := by
 obtain ⟨w1, hw1⟩ : ∃ q, q = V.alloc (.cells #[.int .i64 st, .int .i64 tm, u1, u2, u3, u4] 63) := ⟨_, rfl⟩
 have b1 : Below V.heap.size V w1 := by rw [hw1]; exact (Below.refl _ _).alloc (Nat.le_refl _) _
 have k1 : Blk w1 V.heap.size 63 #[.int .i64 st, .int .i64 tm, u1, u2, u3, u4] := by rw [hw1]; exact Blk.new _ _ _
 have ct := ref16_Text (h.below b1) st
 have hl := textR_len (.inr h) st
 have hno : (textR L S st).1 = false → (textR L S st).2 = [] := textR_no
 have hW : witR L S st tm = if (textR L S st).1 = true ∧ tm ≠ 0 then (true, (textR L S st).2 ++ [tm]) else textR L S st := rfl
 generalize textR L S st = p at *
 obtain ⟨p1, l⟩ := p
 have c0 := (k1.cell 0).trans rfl
 have c1 := (k1.cell 1).trans rfl
 rw [hw1] at c0
 have hz := k1.lt
 clear h
 have Xct := hide ct
 have Xb1 := hide b1
 have Xhl := hide hl
 have Xhno := hide hno
 have XhW := hide hW
 have Xhz := hide hz
 clear ct b1 hl hno hW hz
 go_enter Tryz.func44, Tryz.ntmps44
 go_wp2_with fail
 rw [← hw1]
 refine Xct.out.mono ?_
 rintro e w2 ⟨A, n, c, rfl, own, b2⟩
 have c1' := (b2.cell (p := ⟨V.heap.size, 1, none⟩) Xhz.out).trans c1
 have hs1 := Xb1.out.size
 have bb := Xb1.out.trans (b2.mono hs1)
 have hn : n = l.length := (RdI.at_ own).1
 clear c0 c1 k1 hw1 b2 hs1 Xct Xb1 Xhz
 cases p1 with
 | false =>
  have hw : witR L S st tm = (false, []) := by
   have : l = [] := Xhno.out rfl
   rw [XhW.out, if_neg (fun e => by cases e.1), this]
  have hfin := OutRd.no V bb hw
  have Xhn := hide hn
  have Xbb := hide bb
  have Xown := hide own
  have Xhw := hide hw
  have Xhfin := hide hfin
  clear hn bb own hw hfin
  go_wp2_with fail
  go_ret2
  exact Xhfin.out
 | true =>
  by_cases htm : tm = 0
  ·have hw : witR L S st tm = (true, l) := by rw [XhW.out, if_neg (fun e => e.2 htm)]
   subst htm
   have Xhn := hide hn
   have Xbb := hide bb
   have Xown := hide own
   have Xhw := hide hw
   clear hn bb own hw
   go_wp2_with fail
   go_ret2
   rw [Xhw.out]
   exact ⟨A, n, c, rfl, Xown.out, Xbb.out⟩
  ·have hw : witR L S st tm = (true, l ++ [tm]) := by rw [XhW.out, if_pos ⟨rfl, htm⟩]
   have htm' : (tm == 0) = false := by simpa using htm
   have hlm : n ≤ 4096 := by rw [hn]; exact Xhl.out
   have hz2 : V.heap.size ≤ w2.drew.heap.size := bb.size
   have kx : ∀ W, Below w2.drew.heap.size w2.drew W → W.cell? ⟨V.heap.size, 1, none⟩ = some (.int .i64 tm) := fun W hW => (hW.cell (p := ⟨V.heap.size, 1, none⟩) (World.block_lt_of_cell? w2 _ c1')).trans c1'
   have r1 : ∀ W, Below w2.drew.heap.size w2.drew W → RdI W (fun k => k < w2.heap.size) (.slice A n c) l := fun W hW => (own.below (Below.refl _ _).drew (fun b hb => hb)).below hW (fun b hb => hb)
   have lk : (l.map (Value.int .i64)).length = n * 1 := by rw [List.length_map, Nat.mul_one]; exact hn.symm
   have bb := bb.drew
   have Xhn := hide hn
   have Xbb := hide bb
   have Xown := hide own
   have Xhw := hide hw
   have Xkx := hide kx
   have Xr1 := hide r1
   have Xlk := hide lk
   have Xhz2 := hide hz2
   clear hn bb own hw kx r1 lk hz2
   go_wp2_with fail
   refine wp_region_held_drew (S := (fun W => W.cell? ⟨V.heap.size, 1, none⟩ = some (.int .i64 tm))) (by kernel_rfl) ?_ (fun hHeld => ?_)
   ·exact c1'
   clear c1'
   generalize w2.drew = wd at *
   refine tk (i := 1) (oi := ?_) (v := ?_) ?_ (by kernel_rfl) ?_ (Or.inl ⟨?_, ?_⟩) (by assumption) ?_; rotate_left 2; (focus ((try simp only [gT, gs, gz]); try rfl)); exact fun _ _ _ h => h; rfl; (focus (intro wS hwS; (try dsimp only at hwS); go_simp; all_goals with_reducible rfl)); try simp only [Act.put, sT, s0, s1]
   refine tk (i := 3) (oi := ?_) (v := ?_) ?_ (by kernel_rfl) ?_ (Or.inl ⟨?_, ?_⟩) (by assumption) ?_; rotate_left 2; (focus ((try simp only [gT, gs, gz]); try rfl)); exact fun _ _ _ h => h; rfl; (focus (intro wS hwS; (try dsimp only at hwS); go_simp; all_goals with_reducible rfl)); try simp only [Act.put, sT, s0, s1]
   refine tk (i := 4) (oi := ?_) (v := ?_) ?_ (by kernel_rfl) ?_ (Or.inl ⟨?_, ?_⟩) (by assumption) ?_; rotate_left 2; (focus ((try simp only [gT, gs, gz]); try rfl)); exact fun _ _ _ h => h; rfl; (focus (intro wS hwS; (try dsimp only at hwS); go_simp; all_goals with_reducible rfl)); try simp only [Act.put, sT, s0, s1]
   refine wpAnyH_ready (rs := [0, 5]) (by kernel_rfl) (by simp) ?_
   refine AllReadyH.cons (o := ?_) ?_ (fun K hK => ?_) ?_; rotate_left 1; (focus ((try simp only [gT, gs, gz]); try rfl))
   ·go_simp
    have B1 : Below wd.heap.size wd (wd.alloc (.cells #[] 3)) := (Below.refl _ wd).alloc (Nat.le_refl _) _
    have o1 := own_empty wd 3 1
    refine hK.out _ _ ?_ (fun hHeld => ?_)
    ·exact Xkx.out _ B1
    clear hK K
    try simp only [Act.put, sT, s0, s1]
    refine wpAnyH_ready (rs := [2, 5]) (by kernel_rfl) (by simp) ?_
    refine AllReadyH.cons (o := ?_) ?_ (fun K hK => ?_) ?_; rotate_left 1; (focus ((try simp only [gT, gs, gz]); try rfl))
    ·skip
     refine step_append _ rfl (.tmp 21) (.tmp 22) _ rfl Tryz.elemInt wd.heap.size _ 0 [] rfl o1 _ _ (l.map (Value.int .i64)) n rfl Xlk.out (Xr1.out _ B1) (by intro u hu; obtain ⟨x, -, rfl⟩ := List.mem_map.1 hu; rfl) (by unfold maxLen; omega) (by omega) (B1).size ?_
     intro A4 c4 w4 own4 hg4 hb4
     rw [Nat.zero_add] at own4 ⊢
     have hg4 : World.grownBy _ w4 (some (wd.heap.size)) := hg4
     have B4 := (B1).grown hg4 (B1).size (fun q hq => (World.ownsRow.lt o1 q hq).1)
     refine hK.out _ _ ?_ (fun hHeld => ?_)
     ·exact Xkx.out _ B4
     clear hK K
     try simp only [Act.put, sT, s0, s1]
     refine wpAnyH_ready (rs := [5]) (by kernel_rfl) (by simp) ?_
     refine AllReadyH.cons (o := ?_) ?_ (fun K hK => ?_) ?_; rotate_left 1; (focus ((try simp only [gT, gs, gz]); try rfl))
     ·go_simp
      have B5 : Below wd.heap.size wd (w4.alloc (.cells #[.int .i64 tm] 3)) := B4.alloc B4.size _
      have o5 := own_alloc own4 (.cells #[.int .i64 tm] 3)
      refine hK.out _ _ ?_ (fun hHeld => ?_)
      ·exact Xkx.out _ B5
      clear hK K
      try simp only [Act.put, sT, s0, s1]
      refine wpAnyH_ready (rs := [6]) (by kernel_rfl) (by simp) ?_
      refine AllReadyH.cons (o := ?_) ?_ (fun K hK => ?_) ?_; rotate_left 1; (focus ((try simp only [gT, gs, gz]); try rfl))
      rotate_left 1
      ·exact AllReadyH.nil
      refine step_append _ rfl (.tmp 23) (.tmp 26) _ rfl Tryz.elemInt wd.heap.size _ n _ rfl o5 _ _ [.int .i64 tm] 1 rfl rfl (Rd.one' (w := w4) (e := 3) [.int .i64 tm] 1 rfl) (by intro u hu; obtain rfl := List.mem_singleton.1 hu; rfl) (by unfold maxLen; omega) (by omega) (B5).size ?_
      intro A6 c6 w6 own6 hg6 hb6
      have B6 := (B5).grown hg6 (B5).size (fun q hq => (World.ownsRow.lt o5 q hq).1)
      refine hK.out _ _ ?_ (fun hHeld => ?_)
      ·exact Xkx.out _ B6
      clear hK K
      try simp only [Act.put, sT, s0, s1]
      refine tk (i := 7) (oi := ?_) (v := ?_) ?_ (by kernel_rfl) ?_ (Or.inl ⟨?_, ?_⟩) (by assumption) ?_; rotate_left 2; (focus ((try simp only [gT, gs, gz]); try rfl)); exact fun _ _ _ h => h; rfl; (focus (intro wS hwS; (try dsimp only at hwS); go_simp; all_goals with_reducible rfl)); try simp only [Act.put, sT, s0, s1]
      refine tk (i := 8) (oi := ?_) (v := ?_) ?_ (by kernel_rfl) ?_ (Or.inl ⟨?_, ?_⟩) (by assumption) ?_; rotate_left 2; (focus ((try simp only [gT, gs, gz]); try rfl)); exact fun _ _ _ h => h; rfl; (focus (intro wS hwS; (try dsimp only at hwS); go_simp; all_goals with_reducible rfl)); try simp only [Act.put, sT, s0, s1]
      refine wpAnyH_done (by kernel_rfl) ?_ _
      go_wp2_with fail
      go_ret2
      rw [Xhw.out]
      refine OutOwn.rd ⟨A6, n + 1, c6, rfl, ?_, Xbb.out.trans (B6.mono Xhz2.out)⟩
      have hcells : ([] ++ l.map (Value.int .i64)) ++ [.int .i64 tm] = (l ++ [tm]).map (Value.int .i64) := by simp
      rw [hcells] at own6
      exact ownsRow_base own6 (fun q hq => Nat.le_trans Xhz2.out (World.ownsRow.lt own6 q hq).1)
     ·exact AllReadyH.nil
    ·refine AllReadyH.cons (o := ?_) ?_ (fun K hK => ?_) ?_; rotate_left 1; (focus ((try simp only [gT, gs, gz]); try rfl))
     ·go_simp
      have B2 : Below wd.heap.size wd ((wd.alloc (.cells #[] 3)).alloc (.cells #[.int .i64 tm] 3)) := B1.alloc B1.size _
      have o2 := own_alloc o1 (.cells #[.int .i64 tm] 3)
      have k2 : Blk ((wd.alloc (.cells #[] 3)).alloc (.cells #[.int .i64 tm] 3)) (wd.heap.size + 1) 3 #[.int .i64 tm] := by have := Blk.new (wd.alloc (.cells #[] 3)) 3 #[.int .i64 tm]; simpa using this
      refine hK.out _ _ ?_ (fun hHeld => ?_)
      ·exact Xkx.out _ B2
      clear hK K
      try simp only [Act.put, sT, s0, s1]
      refine wpAnyH_ready (rs := [2]) (by kernel_rfl) (by simp) ?_
      refine AllReadyH.cons (o := ?_) ?_ (fun K hK => ?_) ?_; rotate_left 1; (focus ((try simp only [gT, gs, gz]); try rfl))
      rotate_left 1
      ·exact AllReadyH.nil
      refine step_append _ rfl (.tmp 21) (.tmp 22) _ rfl Tryz.elemInt wd.heap.size _ 0 [] rfl o2 _ _ (l.map (Value.int .i64)) n rfl Xlk.out (Xr1.out _ B2) (by intro u hu; obtain ⟨x, -, rfl⟩ := List.mem_map.1 hu; rfl) (by unfold maxLen; omega) (by omega) (B2).size ?_
      intro A4 c4 w4 own4 hg4 hb4
      rw [Nat.zero_add] at own4 ⊢
      have hg4 : World.grownBy _ w4 (some (wd.heap.size)) := hg4
      have B4 := (B2).grown hg4 (B2).size (fun q hq => (World.ownsRow.lt o2 q hq).1)
      have k4 := k2.grown hg4 (by simp)
      refine hK.out _ _ ?_ (fun hHeld => ?_)
      ·exact Xkx.out _ B4
      clear hK K
      try simp only [Act.put, sT, s0, s1]
      refine wpAnyH_ready (rs := [6]) (by kernel_rfl) (by simp) ?_
      refine AllReadyH.cons (o := ?_) ?_ (fun K hK => ?_) ?_; rotate_left 1; (focus ((try simp only [gT, gs, gz]); try rfl))
      rotate_left 1
      ·exact AllReadyH.nil
      refine step_append _ rfl (.tmp 23) (.tmp 26) _ rfl Tryz.elemInt wd.heap.size _ n _ rfl own4 _ _ [.int .i64 tm] 1 rfl rfl (Rd.of_blk (F := fun b => b = wd.heap.size + 1) (us := [.int .i64 tm]) (n := 1) k4 rfl rfl (by decide)) (by intro u hu; obtain rfl := List.mem_singleton.1 hu; rfl) (by unfold maxLen; omega) (by omega) (B4).size ?_
      intro A6 c6 w6 own6 hg6 hb6
      have B6 := (B4).grown hg6 (B4).size (fun q hq => (World.ownsRow.lt own4 q hq).1)
      refine hK.out _ _ ?_ (fun hHeld => ?_)
      ·exact Xkx.out _ B6
      clear hK K
      try simp only [Act.put, sT, s0, s1]
      refine tk (i := 7) (oi := ?_) (v := ?_) ?_ (by kernel_rfl) ?_ (Or.inl ⟨?_, ?_⟩) (by assumption) ?_; rotate_left 2; (focus ((try simp only [gT, gs, gz]); try rfl)); exact fun _ _ _ h => h; rfl; (focus (intro wS hwS; (try dsimp only at hwS); go_simp; all_goals with_reducible rfl)); try simp only [Act.put, sT, s0, s1]
      refine tk (i := 8) (oi := ?_) (v := ?_) ?_ (by kernel_rfl) ?_ (Or.inl ⟨?_, ?_⟩) (by assumption) ?_; rotate_left 2; (focus ((try simp only [gT, gs, gz]); try rfl)); exact fun _ _ _ h => h; rfl; (focus (intro wS hwS; (try dsimp only at hwS); go_simp; all_goals with_reducible rfl)); try simp only [Act.put, sT, s0, s1]
      refine wpAnyH_done (by kernel_rfl) ?_ _
      go_wp2_with fail
      go_ret2
      rw [Xhw.out]
      refine OutOwn.rd ⟨A6, n + 1, c6, rfl, ?_, Xbb.out.trans (B6.mono Xhz2.out)⟩
      have hcells : ([] ++ l.map (Value.int .i64)) ++ [.int .i64 tm] = (l ++ [tm]).map (Value.int .i64) := by simp
      rw [hcells] at own6
      exact ownsRow_base own6 (fun q hq => Nat.le_trans Xhz2.out (World.ownsRow.lt own6 q hq).1)
     ·exact AllReadyH.nil
   ·refine AllReadyH.cons (o := ?_) ?_ (fun K hK => ?_) ?_; rotate_left 1; (focus ((try simp only [gT, gs, gz]); try rfl))
    ·go_simp
     have B1 : Below wd.heap.size wd (wd.alloc (.cells #[.int .i64 tm] 3)) := (Below.refl _ wd).alloc (Nat.le_refl _) _
     have k1 : Blk (wd.alloc (.cells #[.int .i64 tm] 3)) wd.heap.size 3 #[.int .i64 tm] := Blk.new _ _ _
     refine hK.out _ _ ?_ (fun hHeld => ?_)
     ·exact Xkx.out _ B1
     clear hK K
     try simp only [Act.put, sT, s0, s1]
     refine wpAnyH_ready (rs := [0]) (by kernel_rfl) (by simp) ?_
     refine AllReadyH.cons (o := ?_) ?_ (fun K hK => ?_) ?_; rotate_left 1; (focus ((try simp only [gT, gs, gz]); try rfl))
     rotate_left 1
     ·exact AllReadyH.nil
     go_simp
     have B2 : Below wd.heap.size wd ((wd.alloc (.cells #[.int .i64 tm] 3)).alloc (.cells #[] 3)) := B1.alloc B1.size _
     have o2 : World.ownsRow ((wd.alloc (.cells #[.int .i64 tm] 3)).alloc (.cells #[] 3)) wd.heap.size 3 1 (.slice (some ⟨wd.heap.size + 1, 0, none⟩) 0 0) 0 [] := by
      have := own_empty (wd.alloc (.cells #[.int .i64 tm] 3)) 3 1
      rw [World.size_alloc] at this
      exact ownsRow_base this (fun q hq => by simp [Value.ownBlock] at hq; omega)
     have k2 := k1.alloc (.cells #[] 3)
     refine hK.out _ _ ?_ (fun hHeld => ?_)
     ·exact Xkx.out _ B2
     clear hK K
     try simp only [Act.put, sT, s0, s1]
     refine wpAnyH_ready (rs := [2]) (by kernel_rfl) (by simp) ?_
     refine AllReadyH.cons (o := ?_) ?_ (fun K hK => ?_) ?_; rotate_left 1; (focus ((try simp only [gT, gs, gz]); try rfl))
     rotate_left 1
     ·exact AllReadyH.nil
     refine step_append _ rfl (.tmp 21) (.tmp 22) _ rfl Tryz.elemInt wd.heap.size _ 0 [] rfl o2 _ _ (l.map (Value.int .i64)) n rfl Xlk.out (Xr1.out _ B2) (by intro u hu; obtain ⟨x, -, rfl⟩ := List.mem_map.1 hu; rfl) (by unfold maxLen; omega) (by omega) (B2).size ?_
     intro A4 c4 w4 own4 hg4 hb4
     rw [Nat.zero_add] at own4 ⊢
     have hg4 : World.grownBy _ w4 (some (wd.heap.size+1)) := hg4
     have B4 := (B2).grown hg4 (B2).size (fun q hq => (World.ownsRow.lt o2 q hq).1)
     have k4 := k2.grown hg4 (by simp)
     refine hK.out _ _ ?_ (fun hHeld => ?_)
     ·exact Xkx.out _ B4
     clear hK K
     try simp only [Act.put, sT, s0, s1]
     refine wpAnyH_ready (rs := [6]) (by kernel_rfl) (by simp) ?_
     refine AllReadyH.cons (o := ?_) ?_ (fun K hK => ?_) ?_; rotate_left 1; (focus ((try simp only [gT, gs, gz]); try rfl))
     rotate_left 1
     ·exact AllReadyH.nil
     refine step_append _ rfl (.tmp 23) (.tmp 26) _ rfl Tryz.elemInt wd.heap.size _ n _ rfl own4 _ _ [.int .i64 tm] 1 rfl rfl (Rd.of_blk (F := fun b => b = wd.heap.size) (us := [.int .i64 tm]) (n := 1) k4 rfl rfl (by decide)) (by intro u hu; obtain rfl := List.mem_singleton.1 hu; rfl) (by unfold maxLen; omega) (by omega) (B4).size ?_
     intro A6 c6 w6 own6 hg6 hb6
     have B6 := (B4).grown hg6 (B4).size (fun q hq => (World.ownsRow.lt own4 q hq).1)
     refine hK.out _ _ ?_ (fun hHeld => ?_)
     ·exact Xkx.out _ B6
     clear hK K
     try simp only [Act.put, sT, s0, s1]
     refine tk (i := 7) (oi := ?_) (v := ?_) ?_ (by kernel_rfl) ?_ (Or.inl ⟨?_, ?_⟩) (by assumption) ?_; rotate_left 2; (focus ((try simp only [gT, gs, gz]); try rfl)); exact fun _ _ _ h => h; rfl; (focus (intro wS hwS; (try dsimp only at hwS); go_simp; all_goals with_reducible rfl)); try simp only [Act.put, sT, s0, s1]
     refine tk (i := 8) (oi := ?_) (v := ?_) ?_ (by kernel_rfl) ?_ (Or.inl ⟨?_, ?_⟩) (by assumption) ?_; rotate_left 2; (focus ((try simp only [gT, gs, gz]); try rfl)); exact fun _ _ _ h => h; rfl; (focus (intro wS hwS; (try dsimp only at hwS); go_simp; all_goals with_reducible rfl)); try simp only [Act.put, sT, s0, s1]
     refine wpAnyH_done (by kernel_rfl) ?_ _
     go_wp2_with fail
     go_ret2
     rw [Xhw.out]
     refine OutOwn.rd ⟨A6, n + 1, c6, rfl, ?_, Xbb.out.trans (B6.mono Xhz2.out)⟩
     have hcells : ([] ++ l.map (Value.int .i64)) ++ [.int .i64 tm] = (l ++ [tm]).map (Value.int .i64) := by simp
     rw [hcells] at own6
     exact ownsRow_base own6 (fun q hq => Nat.le_trans Xhz2.out (World.ownsRow.lt own6 q hq).1)
    ·exact AllReadyH.nil
end
theorem RoutePost.flat {G : GramD} {st ck : Int} {w w' : World} {e : Ending} (h : RoutePost G st ck w e w') : Below w.heap.size w w' ∧ ∃ a ev D S L, e = .returned (.tuple #[.pointer a, .int .i64 ev]) ∧ AutoIs G st ck ev D ∧ RtIs w' a S L ∧ ((ev ≠ 0 ∧ a = none ∧ L = []) ∨ (ev = 0 ∧ WordsOf G S ∧ FamW (topOf G) D L)) := by
 obtain ⟨hb, ev, D, hai, ⟨h1, rfl⟩ | ⟨rfl, R, S, L, rfl, h2, h3, h4⟩⟩ := h
 ·exact ⟨hb, none, ev, D, [], [], rfl, hai, .inl ⟨rfl, rfl⟩, .inl ⟨h1, rfl, rfl⟩⟩
 ·exact ⟨hb, _, 0, D, S, L, rfl, hai, .inr ⟨R, _, rfl, h4, h2.2.1⟩, .inr ⟨rfl, h2, h3⟩⟩
theorem RRoutePost.flat {G : GramD} {st ck : Int} {w w' : World} {e : Ending} (h : RRoutePost G st ck w e w') : Below w.heap.size w w' ∧ ∃ a ev D S L, e = .returned (.tuple #[.pointer a, .int .i64 ev]) ∧ AutoIs G st ck ev D ∧ RRtIs w' a S L ∧ ((ev ≠ 0 ∧ a = none ∧ L = []) ∨ (ev = 0 ∧ WordsOf G S ∧ FamW (topOf G) D L)) := by
 obtain ⟨hb, ev, D, hai, ⟨h1, rfl⟩ | ⟨rfl, R, S, L, rfl, h2, h3, h4⟩⟩ := h
 ·exact ⟨hb, none, ev, D, [], [], rfl, hai, .inl ⟨rfl, rfl⟩, .inl ⟨h1, rfl, rfl⟩⟩
 ·exact ⟨hb, _, 0, D, S, L, rfl, hai, .inr ⟨R, _, rfl, h4, h2.2.1⟩, .inr ⟨rfl, h2, h3⟩⟩
def aw16L : List (List Int) := [[], [1], [2], [3], [1, 3]]
def aw16S : List FoundD := [⟨true, false, []⟩, ⟨true, false, [1]⟩, ⟨true, false, [2]⟩, ⟨true, false, [2]⟩]
theorem aw16_words {S : List FoundD} (h : WordsOf aw13 S) : S = aw16S := fixed_unique h.1 (⟨⟨1, by rfl⟩, by rfl⟩ : Fixed aw13.rules (startW aw13.terms.length aw13.nons.length) aw16S)
theorem aw16_dw : DW (topOf aw13) (stD aw13L aw13T) := AutoIs.dw (G := aw13) (st := 3) (ck := 0) (.inr (.inr ⟨rfl, aw13L, aw13T, aw13_auto, rfl, rfl⟩))
theorem aw16_fam : FamW (topOf aw13) (stD aw13L aw13T) aw16L := by
 have p0 : PathD (stD aw13L aw13T) [] 0 := .nil
 have p1 : PathD (stD aw13L aw13T) [1] 1 := .snoc [] 0 ([(2, 0)], [(1, 1), (2, 2), (3, 3)]) 1 1 p0 rfl (by decide)
 have p2 : PathD (stD aw13L aw13T) [2] 2 := .snoc [] 0 ([(2, 0)], [(1, 1), (2, 2), (3, 3)]) 2 2 p0 rfl (by decide)
 have p3 : PathD (stD aw13L aw13T) [3] 3 := .snoc [] 0 ([(2, 0)], [(1, 1), (2, 2), (3, 3)]) 3 3 p0 rfl (by decide)
 have p4 : PathD (stD aw13L aw13T) [1, 3] 4 := .snoc [1] 1 ([(0, 1)], [(1, 1), (2, 2), (3, 4)]) 3 4 p1 rfl (by decide)
 refine ⟨by decide, rfl, fun n w hw => ?_, fun i w d hw hd s t wt hm ht => ?_⟩
 ·match n, hw with
  | 0, hw => simp [aw16L] at hw; subst hw; exact p0
  | 1, hw => simp [aw16L] at hw; subst hw; exact p1
  | 2, hw => simp [aw16L] at hw; subst hw; exact p2
  | 3, hw => simp [aw16L] at hw; subst hw; exact p3
  | 4, hw => simp [aw16L] at hw; subst hw; exact p4
  | n + 5, hw => simp [aw16L] at hw
 ·have key : ∀ i : Nat, i < 5 → ∀ x ∈ (((stD aw13L aw13T)[i]?).getD ([], [])).2, nm (topOf aw13) ((aw16L[x.2.toNat]?).getD []) ≤ nm (topOf aw13) (((aw16L[i]?).getD []) ++ [x.1]) := by decide +kernel
  have hi : i < 5 := (List.getElem?_eq_some_iff.1 hw).1
  have := key i hi (s, (t : Int)) (by rw [hd]; exact hm)
  rw [hw, show ((s, (t : Int)) : It).2.toNat = t from Int.toNat_natCast t, ht] at this
  exact this
theorem aw16_ways {L : List (List Int)} (h : FamW (topOf aw13) (stD aw13L aw13T) L) : L = aw16L := FamW.unique aw16_dw h aw16_fam
end
section
set_option linter.unusedSimpArgs false
open Go.RowKit
attribute [local irreducible] wpStill wpOne wpPh
theorem OutOwn.flat {w w' : World} {p : Bool × List Int} {e : Ending} (h : OutOwn w p e w') : ∃ A n c, e = .returned (.tuple #[.slice A n c, .bool p.1]) ∧ n = p.2.length ∧ RdI w' (fun k => k < w'.heap.size) (.slice A n c) p.2 ∧ Below w.heap.size w w' := by
 obtain ⟨A, n, c, h1, h2, h3⟩ := h.rd
 exact ⟨A, n, c, h1, (RdI.at_ h2).1, h2, h3⟩
set_option maxRecDepth 100000 in
set_option maxHeartbeats 4000000 in
theorem law16_awake (w : World) : Calls Tryz.prog 32 #[] w (Quiet w (.bool true)) := by
 obtain ⟨g, hb⟩ := aw13_box w
 have co := route_Of g.gram 3
 obtain ⟨q0, q1, q2, q3⟩ := g.cells
 clear g
 have Xco := hide co
 have Xhb := hide hb
 clear co hb
 go_enter Tryz.func32, Tryz.ntmps32
 go_wp2_with fail
 refine Xco.out.mono ?_
 rintro e w2 hp
 obtain ⟨b2, a, ev, D, S, L, rfl, hai, rt, hor⟩ := hp.flat
 obtain ⟨rfl, rfl⟩ : ev = 0 ∧ D = stD aw13L aw13T := hai.unique (.inr (.inr ⟨aw13_check, aw13L, aw13T, aw13_auto, rfl, rfl⟩))
 have hb2 := Xhb.out.trans (b2.mono Xhb.out.size)
 rcases hor with ⟨h, -⟩ | ⟨-, h1, h2⟩
 ·exact absurd rfl h
 obtain rfl := aw16_words h1
 obtain rfl := aw16_ways h2
 have cw := route_Way rt 4
 rw [show wayR aw16L 4 = (true, [1, 3]) from by decide] at cw
 clear Xco Xhb b2 hp q0 q1 q2 q3 h1 h2 hai
 have Xrt := hide rt
 have Xcw := hide cw
 have Xhb2 := hide hb2
 clear rt cw hb2
 go_wp2_with fail
 refine Xcw.out.mono ?_
 rintro e w3 ho
 obtain ⟨A, n, c, rfl, hn, r3, b3⟩ := ho.flat
 have rt3 := Xrt.out.below b3
 have hb3 := Xhb2.out.trans (b3.mono Xhb2.out.size)
 have ct := route_Text rt3 4
 rw [show textR aw16L aw16S 4 = (true, [1, 2]) from by decide] at ct
 clear Xrt Xcw Xhb2 b3 hn ho
 have Xrt3 := hide rt3
 have Xct := hide ct
 have Xhb3 := hide hb3
 have Xr3 := hide r3
 clear rt3 ct hb3 r3
 go_wp2_with fail
 refine Xct.out.mono ?_
 rintro e w4 ho
 obtain ⟨A', n', c', rfl, hn, r4, b4⟩ := ho.flat
 have rt4 := Xrt3.out.below b4
 have hb4 := Xhb3.out.trans (b4.mono Xhb3.out.size)
 have r3 := (Xr3.out.below b4 (fun b hb => hb)).mono (F' := fun k => k < w4.heap.size) (fun b hb => Nat.lt_of_lt_of_le hb b4.size)
 obtain ⟨w5, hw5⟩ : ∃ q, q = w4.alloc (.cells #[.int .i64 1, .int .i64 3] 3) := ⟨_, rfl⟩
 have b5 : Below w4.heap.size w4 w5 := by rw [hw5]; exact (Below.refl _ _).alloc (Nat.le_refl _) _
 have k5 : Blk w5 w4.heap.size 3 #[.int .i64 1, .int .i64 3] := by rw [hw5]; exact Blk.new _ _ _
 have c1 := ref_ints3 (r3.below b5 (fun b hb => hb)) (show RdI w5 (fun _ => True) (.slice (some ⟨w4.heap.size, 0, none⟩) 2 2) [1, 3] from Rd.of_blk (us := [Value.int .i64 1, Value.int .i64 3]) k5 trivial rfl (by decide))
 rw [decide_eq_true rfl] at c1
 have rt5 := rt4.below b5
 have hb5 := hb4.trans (b5.mono hb4.size)
 have r5 := (r4.below b5 (fun b hb => hb)).mono (F' := fun k => k < w5.heap.size) (fun b hb => Nat.lt_of_lt_of_le hb b5.size)
 rw [hw5] at c1
 clear Xr3 Xrt3 Xct Xhb3 b4 hn ho rt4 hb4 r3 r4 b5 k5
 have Xrt5 := hide rt5
 have Xhb5 := hide hb5
 have Xr5 := hide r5
 have Xc1 := hide c1
 clear rt5 hb5 r5 c1
 go_wp2_with fail
 refine Xc1.out.mono ?_
 rintro e w6 ⟨rfl, b6⟩
 rw [← hw5] at b6
 have rt6 := Xrt5.out.below b6
 have hb6 := Xhb5.out.trans (b6.mono Xhb5.out.size)
 have r6 := (Xr5.out.below b6 (fun b hb => hb)).mono (F' := fun k => k < w6.heap.size) (fun b hb => Nat.lt_of_lt_of_le hb b6.size)
 obtain ⟨w7, hw7⟩ : ∃ q, q = w6.alloc (.cells #[.int .i64 1, .int .i64 2] 3) := ⟨_, rfl⟩
 have b7 : Below w6.heap.size w6 w7 := by rw [hw7]; exact (Below.refl _ _).alloc (Nat.le_refl _) _
 have k7 : Blk w7 w6.heap.size 3 #[.int .i64 1, .int .i64 2] := by rw [hw7]; exact Blk.new _ _ _
 have c1 := ref_ints3 (r6.below b7 (fun b hb => hb)) (show RdI w7 (fun _ => True) (.slice (some ⟨w6.heap.size, 0, none⟩) 2 2) [1, 2] from Rd.of_blk (us := [Value.int .i64 1, Value.int .i64 2]) k7 trivial rfl (by decide))
 rw [decide_eq_true rfl] at c1
 have rt7 := rt6.below b7
 have hb7 := hb6.trans (b7.mono hb6.size)
 rw [hw7] at c1
 clear Xr5 Xrt5 Xc1 Xhb5 b6 hw5 rt6 hb6 r6 b7 k7
 have Xrt7 := hide rt7
 have Xhb7 := hide hb7
 have Xc1 := hide c1
 clear rt7 hb7 c1
 go_wp2_with fail
 refine Xc1.out.mono ?_
 rintro e w8 ⟨rfl, b8⟩
 rw [← hw7] at b8
 have rt8 := Xrt7.out.below b8
 have hb8 := Xhb7.out.trans (b8.mono Xhb7.out.size)
 have cl := route_Len rt8
 clear Xrt7 Xc1 Xhb7 b8 hw7 rt8
 have Xcl := hide cl
 have Xhb8 := hide hb8
 clear cl hb8
 go_wp2_with fail
 refine Xcl.out.mono ?_
 rintro e w9 ⟨rfl, rfl⟩
 go_wp2_with fail
 go_ret
 exact ⟨rfl, Xhb8.out⟩
def ClashCells (cs : List Value) (x : Int × Int) : Prop := ∃ u1 u2 u3 u4, cs = [.int .i64 x.1, .int .i64 x.2, u1, u2, u3, u4]
set_option maxRecDepth 100000 in
set_option maxHeartbeats 4000000 in
theorem walk_RouteNone (i : Int) (C : Array Value) (x : Int × Int) (w : World) (hi : (Lit.int .i64 i).wf = true) (hc : ClashCells C.toList x) :
  Calls Tryz.prog 9 #[.int .i64 i, .agg C] w (Quiet w (.bool true)) := by
 obtain ⟨st, tm⟩ := x
 obtain ⟨u1, u2, u3, u4, hC⟩ := hc
 obtain rfl : C = #[.int .i64 st, .int .i64 tm, u1, u2, u3, u4] := Array.toList_inj.1 hC
 clear hC hi
 obtain ⟨w1, hw1⟩ : ∃ q, q = w.alloc (.cells #[.int .i64 st, .int .i64 tm, u1, u2, u3, u4] 63) := ⟨_, rfl⟩
 have b1 : Below w.heap.size w w1 := by rw [hw1]; exact (Below.refl _ _).alloc (Nat.le_refl _) _
 have k1 : Blk w1 w.heap.size 63 #[.int .i64 st, .int .i64 tm, u1, u2, u3, u4] := by rw [hw1]; exact Blk.new _ _ _
 have rt := fun V : World => (Or.inl ⟨rfl, rfl⟩ : RtIs V none [] [])
 have cw := route_Way (rt w1) i
 have hno : ∀ i, wayR [] i = (false, []) := fun i => wayR_out (by simp)
 have hnt : ∀ i, textR [] [] i = (false, []) := fun i => by unfold textR; rw [hno]; rfl
 have hnw : ∀ i j, witR [] [] i j = (false, []) := fun i j => by unfold witR; rw [hnt]; rfl
 rw [hno] at cw
 clear rt
 have Xcw := hide cw
 have Xhno := hide hno
 have Xhnt := hide hnt
 have Xhnw := hide hnw
 have Xb1 := hide b1
 have Xk1 := hide k1
 clear cw hno hnt hnw b1 k1
 go_enter Tryz.func9, Tryz.ntmps9
 go_wp2_with fail
 rw [← hw1]
 refine Xcw.out.mono ?_
 rintro e w2 ho
 obtain ⟨A2, n2, c2, rfl, hn, -, b2⟩ := ho.flat
 obtain rfl : n2 = 0 := hn
 have bb2 := Xb1.out.trans (b2.mono Xb1.out.size)
 have k2 := Xk1.out.below b2 Xk1.out.lt
 have ct := route_Text (Or.inl ⟨rfl, rfl⟩ : RtIs w2 none [] []) i
 rw [Xhnt.out] at ct
 clear ho b2 Xb1 Xk1 Xcw hw1
 have Xct := hide ct
 have Xbb2 := hide bb2
 have Xk2 := hide k2
 clear ct bb2 k2
 go_wp2_with fail
 refine Xct.out.mono ?_
 rintro e w3 ho
 obtain ⟨A3, n3, c3, rfl, hn, -, b3⟩ := ho.flat
 obtain rfl : n3 = 0 := hn
 have bb3 := Xbb2.out.trans (b3.mono Xbb2.out.size)
 have k3 := Xk2.out.below b3 Xk2.out.lt
 have cc := route_Witness (Or.inl ⟨rfl, rfl⟩ : RtIs w3 none [] []) st tm u1 u2 u3 u4
 rw [Xhnw.out] at cc
 have d0 := (k3.cell 0).trans rfl
 have d1 := (k3.cell 1).trans rfl
 have d2 := (k3.cell 2).trans rfl
 have d3 := (k3.cell 3).trans rfl
 have d4 := (k3.cell 4).trans rfl
 have d5 := (k3.cell 5).trans rfl
 clear ho b3 Xbb2 Xk2 Xct
 have Xcc := hide cc
 have Xbb3 := hide bb3
 have Xk3 := hide k3
 clear cc bb3 k3
 go_wp2_with fail
 refine Xcc.out.mono ?_
 rintro e w4 ho
 obtain ⟨A4, n4, c4, rfl, hn, -, b4⟩ := ho.flat
 obtain rfl : n4 = 0 := hn
 have bb4 := Xbb3.out.trans (b4.mono Xbb3.out.size)
 have cl := route_Len (Or.inl ⟨rfl, rfl⟩ : RtIs w4 none [] [])
 have ca := law16_awake w4
 clear ho b4 Xbb3 Xk3 Xcc d0 d1 d2 d3 d4 d5
 have Xcl := hide cl
 have Xca := hide ca
 have Xbb4 := hide bb4
 clear cl ca bb4
 go_wp2_with fail
 refine Xcl.out.mono ?_
 rintro e w' ⟨rfl, rfl⟩
 go_wp2_with fail
 refine Xca.out.mono ?_
 rintro e w5 ⟨rfl, b5⟩
 have bb5 := Xbb4.out.trans (b5.mono Xbb4.out.size)
 clear b5 Xbb4 Xca
 have Xbb5 := hide bb5
 clear bb5
 go_wp2_with fail
 go_ret
 exact ⟨rfl, Xbb5.out⟩
end
section
open Go.ChangeShapes Go.WideShapes Go.ChangeAt Go.RowKit Go.Deep
section
variable {H : Type} {enc : TypeId × Value → H} {P : Program} {w : World} {sp : Nat → Bool}
theorem opens_head2Z {X Y : Type} {t : TypeId} {fs : Array Field} {f0 f1 : Field} {E0 : List Value → X → Prop} {E1 : List Value → Y → Prop} (ht : P.underlying t = some (.struct fs)) (hC : P.cellsOf t = 6)
  (h0 : fs[0]? = some f0) (h1 : fs[1]? = some f1) (o0 : f0.offset = 0) (o1 : f1.offset = 1) (k0 : P.cellsOf f0.type = 1) (k1 : P.cellsOf f1.type = 1)
  (e0 : Opens enc P w sp f0.type E0) (e1 : Opens enc P w sp f1.type E1) : OpensZ enc P w sp t (fun cs (x : X × Y) => ∃ c0 c1 u1 u2 u3 u4, cs = [c0, c1, u1, u2, u3, u4] ∧ E0 [c0] x.1 ∧ E1 [c1] x.2) := by
 intro n cs y h hr
 obtain ⟨xs, n', _, hy, hlen, hxl, hg⟩ := DataW.trod_struct ht h
 have g0 := hg 0 f0 h0
 have g1 := hg 1 f1 h1
 rw [o0, k0] at g0
 rw [o1, k1] at g1
 have l0 : 0 < xs.length := by rw [hxl]; exact (Array.getElem?_eq_some_iff.1 h0).1
 have l1 : 1 < xs.length := by rw [hxl]; exact (Array.getElem?_eq_some_iff.1 h1).1
 rw [List.getElem?_eq_getElem l0] at g0
 rw [List.getElem?_eq_getElem l1] at g1
 obtain ⟨a, ha⟩ := e0 _ _ _ g0
 obtain ⟨b, hb⟩ := e1 _ _ _ g1
 have hl : cs.length = 6 := hlen.trans hC
 clear h hr hg g0 g1 hlen hy
 match cs, hl with
 | [c0, c1, c2, c3, c4, c5], _ => exact ⟨(a, b), c0, c1, c2, c3, c4, c5, rfl, ha, hb⟩
end
section
variable {H : Type} {enc : TypeId × Value → H} {w : World} {sp : Nat → Bool}
theorem opens_clashZ : OpensZ enc Tryz.prog w sp 63 (fun cs (x : Int × Int) => ClashCells cs x) := fun n cs y h hr => by
 obtain ⟨x, c0, c1, u1, u2, u3, u4, rfl, ⟨e0, -⟩, ⟨e1, -⟩⟩ := opens_head2Z Tryz.underlying63 (by kernel_rfl) rfl rfl rfl rfl (by kernel_rfl) (by kernel_rfl) (opens_int Tryz.underlying3) (opens_int Tryz.underlying3) n cs y h hr
 injection e0 with e0 _
 injection e1 with e1 _
 exact ⟨x, u1, u2, u3, u4, by rw [e0, e1]⟩
end
end
end Go.Proofs.YtlpokomfljmogaaGreat
