/- gram.once. -/
import Derived.Test.YtejjaabkbkkjlaaGram28
import Derived.Test.YtejjaabkbkkjlaaConcat
namespace Go.Proofs.Ytejjaabkbkkjlaa
set_option linter.unusedVariables false
open Go.RowKit
open Go.Maps (Keyed)

theorem Try.keyStr : Keyed Try.prog 9 := Maps.string_keyed Try.underlying9
theorem Try.zeroInt (w : World) : (zeroValue 3).run Try.prog w = .ok (.int .i64 0) w := by kernel_rfl

def skey (s : ByteArray) : Lit := .string s.data.toList
theorem skey_inj {s t : ByteArray} (h : skey s = skey t) : s = t := by
  unfold skey at h
  injection h with h
  exact bytes_ext (Array.toList_inj.1 h)
theorem skey_lit (s : ByteArray) : WideAt.IsKeyLit (skey s) := by unfold skey; simp [WideAt.IsKeyLit]
/-- how many there are, each once (from the end) -/
def dist : List ByteArray → Nat
  | [] => 0
  | s :: r => if s ∈ r then dist r else dist r + 1
theorem dist_le : ∀ l, dist l ≤ l.length
  | [] => Nat.le_refl _
  | s :: r => by
    have := dist_le r
    unfold dist
    split <;> simp <;> omega
theorem dist_nodup : ∀ l : List ByteArray, dist l = l.length ↔ l.Nodup
  | [] => by simp [dist]
  | s :: r => by
    have h1 := dist_le r
    have h2 := dist_nodup r
    unfold dist
    rw [List.nodup_cons, List.length_cons]
    by_cases h : s ∈ r
    · rw [if_pos h]
      constructor
      · intro e; omega
      · intro e; exact absurd h e.1
    · rw [if_neg h, ← h2]
      constructor
      · intro e; exact ⟨h, by omega⟩
      · intro e; omega
structure CountMap (D : DataW Unit) (xs : List ByteArray) : Prop where
  tidy : Maps.Tidy D
  has : ∀ s, Maps.has D (skey s) = true ↔ s ∈ xs
  size : Maps.size D = dist xs.reverse
  bound : ∀ s c, D.atKey (skey s) (.lit (.int .i64 0)) = .lit (.int .i64 c) → 0 ≤ c ∧ c ≤ xs.length
theorem tidy_isMap {D : DataW Unit} (h : Maps.Tidy D) : Maps.IsMap D := by obtain ⟨es, h, _⟩ := h; exact ⟨es, h⟩
theorem CountMap.empty : CountMap (.map []) [] := ⟨Maps.tidy_empty, fun _ => by simp [Maps.has], rfl, fun s c h => by
  have : (DataW.map [] : DataW Unit).atKey (skey s) (.lit (.int .i64 0)) = .lit (.int .i64 0) := rfl
  rw [this] at h
  injection h with h
  injection h with _ h
  simp; omega⟩
theorem CountMap.put {D : DataW Unit} {xs : List ByteArray} (h : CountMap D xs) {s : ByteArray} {c : Int} (hc : D.atKey (skey s) (.lit (.int .i64 0)) = .lit (.int .i64 c)) : CountMap (D.put (skey s) (.lit (.int .i64 (c + 1)))) (xs ++ [s]) := by
  have hk := skey_lit s
  have hm := tidy_isMap h.tidy
  refine ⟨h.tidy.put hk _, fun t => ?_, ?_, fun t d hd => ?_⟩
  · by_cases e : t = s
    · subst e
      rw [Maps.has_put_same hm hk]; simp
    · rw [Maps.has_put_other (fun c => e (skey_inj c)), h.has]; simp [e]
  · rw [Maps.size_put h.tidy, h.size, List.reverse_append]
    show _ = (if s ∈ xs.reverse then dist xs.reverse else dist xs.reverse + 1)
    by_cases e : s ∈ xs
    · rw [if_pos ((h.has s).2 e), if_pos (by simpa using e)]
    · rw [if_neg (fun c => e ((h.has s).1 c)), if_neg (by simpa using e)]
  · have hb := h.bound s c hc
    by_cases e : t = s
    · subst e
      rw [Maps.atKey_put_same hm hk] at hd
      injection hd with hd
      injection hd with _ hd
      simp; omega
    · rw [Maps.atKey_put_other (fun c => e (skey_inj c))] at hd
      have := h.bound t d hd
      simp; omega

theorem ERule.touch {w w' : World} {F S : Nat → Prop} {cs : List Value} {r : Int × List Int} (h : ERule w F cs r) (ht : Touch S w w') (hS : ∀ b, F b → ¬ S b) : ERule w' F cs r := by
  obtain ⟨v, e, hv⟩ := h
  exact ⟨v, e, hv.touch ht hS⟩
theorem IsGram.touch {w w' : World} {F S : Nat → Prop} {vt vn vr : Value} {G : GramD} (h : IsGram w F vt vn vr G) (ht : Touch S w w') (hS : ∀ b, F b → ¬ S b) : IsGram w' F vt vn vr G :=
  ⟨h.terms.touch ht hS, h.nons.touch ht hS, RdL.touch h.rules ht hS (fun cs x _ e => e.touch ht hS), fun b hb => Nat.lt_of_lt_of_le (h.lt b hb) ht.size, h.small, h.sizes, h.reach, h.wfs⟩
theorem GBox.touch {w w' : World} {F S : Nat → Prop} {B : Nat} {A1 A2 A3 : Option Addr} {c1 c2 c3 T N R : Nat} {st : Int} {G : GramD} (h : GBox w F B A1 c1 A2 c2 A3 c3 T N R st G) (ht : Touch S w w') (hS : ∀ b, F b → ¬ S b) (hB : ¬ S B) : GBox w' F B A1 c1 A2 c2 A3 c3 T N R st G :=
  ⟨h.gram.touch ht hS, h.blk.touch ht hB, h.t, h.n, h.r, h.tc, h.nc, h.rc, h.c1m, h.c2m, h.c3m, h.ts, h.ns, h.rs⟩

theorem onceOf_eq {G : GramD} : (dist (G.terms ++ G.nons).reverse = (G.terms ++ G.nons).length) ↔ (G.terms ++ G.nons).Nodup := by
  have := dist_nodup (G.terms ++ G.nons).reverse
  rw [List.length_reverse] at this
  rw [this]
  exact (List.reverse_perm _).nodup_iff

set_option maxRecDepth 100000 in
set_option maxHeartbeats 2000000 in
theorem gram_once {w : World} {F : Nat → Prop} {vt vn vr : Value} {G : GramD} (h : IsGram w F vt vn vr G) (st : Int) (hbd : G.terms.length + G.nons.length ≤ 65536) :
    Calls Try.prog 79 #[GV vt vn vr st] w (Quiet w (.bool (decide (G.terms ++ G.nons).Nodup))) := by
  obtain ⟨A1, c1, A2, c2, A3, c3, rfl, rfl, rfl, -⟩ := h.slices
  have g := GBox.new h st
  have hb0 : Below w.heap.size w (w.alloc (.cells #[.slice A1 G.terms.length c1, .slice A2 G.nons.length c2, .slice A3 G.rules.length c3, .int .i64 st] 25)) := (Below.refl _ w).alloc (Nat.le_refl _) _
  obtain ⟨w1, hw1⟩ : ∃ w1, w1 = w.alloc (.cells #[.slice A1 G.terms.length c1, .slice A2 G.nons.length c2, .slice A3 G.rules.length c3, .int .i64 st] 25) := ⟨_, rfl⟩
  have hz1 : w1.heap.size = w.heap.size + 1 := by rw [hw1]; simp
  rw [← hw1] at g hb0
  have hlen : (G.terms ++ G.nons).length = G.terms.length + G.nons.length := List.length_append
  have htop : topOf G = G.terms.length + G.nons.length := rfl
  have hon := @onceOf_eq G
  have hFw := h.lt
  have hsz : ∀ s ∈ G.terms ++ G.nons, s.size ≤ maxLen := fun s hs => by
    rcases List.mem_append.1 hs with e | e
    · exact h.sizes.1 s e
    · exact h.sizes.2 s e
  generalize hT : G.terms.length = T at *
  generalize hN : G.nons.length = N at *
  generalize hR : G.rules.length = R at *
  -- the map, and the two lists
  obtain ⟨w2, hw2⟩ : ∃ w2, w2 = w1.alloc (.map #[] 0) := ⟨_, rfl⟩
  have hm2 : w2.ownsMap Try.prog 9 (plainElem (H := Unit) Try.prog 3) (w.heap.size + 1) 0 (.map []) := by
    rw [hw2, ← hz1]; exact World.ownsMap_made w1 Try.prog 9 (plainElem (H := Unit) Try.prog 3)
  have hb2 : Below w1.heap.size w1 w2 := by rw [hw2]; exact (Below.refl _ w1).alloc (Nat.le_refl _) _
  have hz2 : w2.heap.size = w.heap.size + 2 := by rw [hw2]; simp; omega
  obtain ⟨w3, hw3⟩ : ∃ w3, w3 = w2.alloc (.cells #[.slice A1 T c1, .slice A2 N c2] 22) := ⟨_, rfl⟩
  have hb3 : Below w2.heap.size w2 w3 := by rw [hw3]; exact (Below.refl _ w2).alloc (Nat.le_refl _) _
  have g3 := (g.below hb2).below hb3
  have k3 : Blk w3 w2.heap.size 22 #[.slice A1 T c1, .slice A2 N c2] := by rw [hw3]; exact Blk.new w2 _ _
  have m3 : w3.ownsMap Try.prog 9 (plainElem (H := Unit) Try.prog 3) (w.heap.size + 1) 0 (.map []) := (Touch.of_size hb3 (fun _ => False)).ownsMap hm2 (fun e => e)
  have hcc := concat_two g3.gram.terms g3.gram.nons g3.gram.lt k3 (by omega)
  rw [hz2, hT, hN] at hcc
  obtain ⟨q0, q1, q2, q3⟩ := g.cells
  have hbel3 : Below w.heap.size w w3 := hb0.trans ((hb2.trans (hb3.mono hb2.size)).mono hb0.size)
  have hz3 : w3.heap.size = w.heap.size + 3 := by rw [hw3]; simp; omega
  have Xhcc := hide hcc
  have Xg3 := hide g3
  have Xm3 := hide m3
  have Xhbel3 := hide hbel3
  have Xhlen := hide hlen
  have Xhtop := hide htop
  have Xhon := hide hon
  have Xhsz := hide hsz
  have XhT := hide hT
  have XhN := hide hN
  have XhR := hide hR
  have XhFw := hide hFw
  clear hcc g3 m3 hbel3 hlen htop hon hsz hT hN hR hFw
  clear k3 hb3 hb2 hm2 g hb0
  rw [hw3, hw2, hw1] at Xhcc
  rw [hw1] at q0 q1 q2 q3
  have hmm := @run_makeMap Try.prog
  go_enter Try.func79, Try.ntmps79
  go_wp2_with fail
  refine Xhcc.out.mono ?_
  rintro e w4 ⟨A, c, rfl, hown, hb4⟩
  rw [← hw1, ← hw2, ← hw3] at hown hb4
  have hz4 : w3.heap.size ≤ w4.heap.size := hb4.size
  have hbk := hown.lt
  have m4 := (Touch.of_size hb4 (fun _ => False)).ownsMap Xm3.out (fun e => e)
  have g4 := Xg3.out.below hb4
  have hrd : RdS w4 (fun k => w.heap.size + 2 < k) (.slice A (T + N) c) (G.terms ++ G.nons) := (Rd.of_own hown).mono (fun k hk => by have := (hbk k hk).1; omega)
  have hb4' := Xhbel3.out.trans (hb4.mono Xhbel3.out.size)
  have hn1 := hrd.at_.2.1
  have hn2 := hrd.at_.2.2.1
  unfold maxLen at hn2
  clear hown hb4 hbk hw1 hw2 hw3 hmm q0 q1 q2 q3 Xhcc
  have Xhz3 := hide hz3
  have Xhz1 := hide hz1
  have Xhz2 := hide hz2
  clear hz3 hz1 hz2
  go_wp2_with fail
  go_loopw [14] (fun i wr => ∃ k : Nat, k ≤ T + N ∧ i = .int .i64 k ∧ (∃ D, wr.ownsMap Try.prog 9 (plainElem (H := Unit) Try.prog 3) (w.heap.size + 1) k D ∧ CountMap D ((G.terms ++ G.nons).take k)) ∧ GBox wr F w.heap.size A1 c1 A2 c2 A3 c3 T N R st G ∧ RdS wr (fun k => w.heap.size + 2 < k) (.slice A (T + N) c) (G.terms ++ G.nons) ∧ Below w.heap.size w wr) (fun i _ => T + N - (intOf i).toNat)
  case atStart => exact ⟨0, Nat.zero_le _, rfl, ⟨_, m4, by rw [List.take_zero]; exact CountMap.empty⟩, g4, hrd, hb4'⟩
  case round =>
    clear m4 g4 hrd hb4'
    obtain ⟨k, hk, rfl, ⟨D, hown, hD⟩, g, hrd, hb⟩ := hrel
    by_cases hlt : k < T + N
    · obtain ⟨-, -, -, hcell⟩ := hrd.at_
      obtain ⟨b, off, rfl, hbF, hc⟩ := hcell (by omega)
      obtain ⟨s, hs⟩ : ∃ s, (G.terms ++ G.nons)[k]? = some s := ⟨_, List.getElem?_eq_getElem (by rw [Xhlen.out]; exact hlt)⟩
      have hcs := hc k s hs
      have hsz := Xhsz.out s (List.mem_of_getElem? hs)
      have hkey : keyOf Try.prog 9 (.string s) = some (skey s) := Go.WideMaps.keyOf_string_mk Try.underlying9 hsz
      have hlt' : (k : Int) < ((T + N : Nat) : Int) := by omega
      have htk : (G.terms ++ G.nons).take (k + 1) = (G.terms ++ G.nons).take k ++ [s] := by rw [List.take_add_one, hs]; rfl
      have hlk : ((G.terms ++ G.nons).take k).length ≤ k := List.length_take_le _ _
      have Xhs := hide hs
      have XhD := hide hD
      have Xg := hide g
      have Xhrd := hide hrd
      have Xhb := hide hb
      have Xhtk := hide htk
      clear hs hD g hrd hb htk
      clear hc hcell hsz
      have hbd2 := XhD.out.bound s
      have Xhbd2 := hide hbd2
      clear hbd2
      go_wp2_with (first | (at_lookup; refine wpList_lookup_own_int _ rfl _ _ 126 rfl 9 3 .i64 Try.keyStr Try.underlying126 Try.underlying3 (Try.zeroInt _) _ _ D rfl hown _ _ rfl hkey ?_; intro c' hat hwc; obtain ⟨u1, u2⟩ := Xhbd2.out c' hat; have Xhat := hide hat; clear hat) | (at_mapUpdate; refine wpList_mapUpdate_own _ rfl _ _ _ 126 rfl 9 3 Try.keyStr Try.underlying126 _ (w.heap.size + 1) k D rfl hown (by unfold maxLen; omega) _ _ _ rfl rfl hkey _ [] (plainElem_int Try.underlying3 (WalkArith.wf_i64 (by omega))) ?_; intro w5 hown5 hg5))
      have hne1 : ∀ q, w.heap.size + 2 < q → ¬ (fun k => k = w.heap.size + 1) q := fun q hq e => by have : q = w.heap.size + 1 := e; omega
      have t5 : Touch (fun k => k = w.heap.size + 1) wr w5 := (Touch.refl _ wr).grown hg5 (fun q e _ => by injection e with e; exact e.symm)
      have g5 : GBox w5 F w.heap.size A1 c1 A2 c2 A3 c3 T N R st G := Xg.out.touch t5 (fun b hb e => by have := XhFw.out b hb; have : b = w.heap.size + 1 := e; omega) (fun e => by have : w.heap.size = w.heap.size + 1 := e; omega)
      have hb5 : Below w.heap.size w w5 := Xhb.out.grown hg5 Xhb.out.size (fun q e => by injection e with e; omega)
      have hrd5 := Xhrd.out.touch t5 hne1
      have hD5 := XhD.out.put Xhat.out
      rw [← Xhtk.out] at hD5
      have Xt5 := hide t5
      have Xg5 := hide g5
      have Xhrd5 := hide hrd5
      have XhD5 := hide hD5
      have Xhown5 := hide hown5
      have Xhb5 := hide hb5
      clear t5 g5 hrd5 hD5 hown5 hb5
      clear hg5 hne1
      go_wp2_with fail
      go_roundw
      case rel => exact ⟨k + 1, by omega, by go_num, ⟨_, Xhown5.out, XhD5.out⟩, Xg5.out, Xhrd5.out, Xhb5.out⟩
      case measure => simp [intOf]; omega
    · have hkn : k = T + N := by omega
      subst hkn
      obtain ⟨q0, q1, q2, q3⟩ := g.cells
      have hsd := hD.size
      rw [List.take_of_length_le (by rw [Xhlen.out]; omega)] at hsd
      have htp := gram_top g.gram st
      have hon := Xhon.out
      rw [← hsd, Xhlen.out] at hon
      rw [Xhtop.out] at htp
      by_cases hnd : (G.terms ++ G.nons).Nodup
      · have he : ((Maps.size D : Int) == (T : Int) + (N : Int)) = true := by rw [beq_iff_eq]; have := hon.2 hnd; omega
        have XhD := hide hD
        have Xg := hide g
        have Xhrd := hide hrd
        have Xhb := hide hb
        have Xhon := hide hon
        have Xhsd := hide hsd
        have Xhnd := hide hnd
        have Xhtp := hide htp
        clear hD g hrd hb hon hsd hnd htp
        go_wp2_with (at_len; refine wpList_len_own _ rfl _ 126 rfl 9 3 Try.underlying126 _ (w.heap.size + 1) (T + N) D rfl hown ?_)
        refine Xhtp.out.mono ?_
        rintro e w6 ⟨rfl, b6⟩
        go_wp2_with fail
        go_ret
        exact ⟨ret_bool (decide_eq_true Xhnd.out).symm, Xhb.out.trans (b6.mono Xhb.out.size)⟩
      · have he : ((Maps.size D : Int) == (T : Int) + (N : Int)) = false := by rw [beq_eq_false_iff_ne]; intro e; exact hnd (hon.1 (by omega))
        have XhD := hide hD
        have Xg := hide g
        have Xhrd := hide hrd
        have Xhb := hide hb
        have Xhon := hide hon
        have Xhsd := hide hsd
        have Xhnd := hide hnd
        have Xhtp := hide htp
        clear hD g hrd hb hon hsd hnd htp
        go_wp2_with (at_len; refine wpList_len_own _ rfl _ 126 rfl 9 3 Try.underlying126 _ (w.heap.size + 1) (T + N) D rfl hown ?_)
        refine Xhtp.out.mono ?_
        rintro e w6 ⟨rfl, b6⟩
        go_wp2_with fail
        go_ret
        exact ⟨ret_bool (decide_eq_false Xhnd.out).symm, Xhb.out.trans (b6.mono Xhb.out.size)⟩
end Go.Proofs.Ytejjaabkbkkjlaa
