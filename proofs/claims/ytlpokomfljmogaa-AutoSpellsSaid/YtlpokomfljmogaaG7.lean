/- Forms, names once. -/
import Derived.Test.YtlpokomfljmogaaG6
import Derived.Test.YtlpokomfljmogaaC1
import Derived.Test.YtlpokomfljmogaaC2
import Derived.Test.YtlpokomfljmogaaG1
import Derived.Lib.AppendZeros
namespace Go.Proofs.Ytlpokomfljmogaa
set_option linter.unusedVariables false

section
open Go.RowKit

theorem Try.enters_plain : Enters Try.prog 37 := enters_of Try.func37 (by kernel_rfl) rfl
theorem plain_clo {w : World} : PredS w 37 #[] plainB := fun W x hx hW => gram_plain x hx W
theorem Try.enters_form : Enters Try.prog 36 := enters_of Try.func36 (by kernel_rfl) rfl
theorem form_clo {w : World} : PredS w 36 #[] (fun s => plainB s || quotedB s) := by
  intro W x hx hW
  have hp := gram_plain x hx W
  have hq := fun wr => gtok_isquoted x hx wr
  show Calls Try.prog 36 #[.string x] W (Quiet W (.bool (plainB x || quotedB x)))
  generalize plainB x = p at *
  generalize quotedB x = q at *
  have Xhp := hide hp
  have Xhq := hide hq
  clear hp hq
  clear hW hx
  cases p with
  | true =>
    go_enter Try.func36, Try.ntmps36
    go_wp2_with fail
    refine Xhp.out.mono ?_
    rintro e w2 ⟨rfl, b2⟩
    go_wp2_with fail
    go_ret
    exact ⟨rfl, b2⟩
  | false =>
    go_enter Try.func36, Try.ntmps36
    go_wp2_with fail
    refine Xhp.out.mono ?_
    rintro e w2 ⟨rfl, b2⟩
    go_wp2_with fail
    refine (Xhq.out _).mono ?_
    rintro e w3 ⟨rfl, b3⟩
    go_wp2_with fail
    go_ret
    exact ⟨ret_bool (by cases q <;> rfl), b2.trans (b3.mono b2.size)⟩

def formOf (G : GramD) : Bool := G.terms.all (fun s => plainB s || quotedB s) && G.nons.all plainB
theorem all_no {X : Type} {p : X → Bool} {l : List X} {k : Nat} {x : X} (hx : l[k]? = some x) (h : p x = false) : l.all p = false := by
  rw [List.all_eq_false]
  exact ⟨x, List.mem_of_getElem? hx, by simp [h]⟩
theorem all_yes {X : Type} {p : X → Bool} {l : List X} (h : ∀ (j : Nat) (x : X), l[j]? = some x → p x = true) : l.all p = true := by
  rw [List.all_eq_true]
  intro x hx
  obtain ⟨j, hj, e⟩ := List.getElem_of_mem hx
  exact h j x (by rw [List.getElem?_eq_getElem hj, e])

/-- a name, where it lies -/
theorem GBox.term {w : World} {F : Nat → Prop} {B : Nat} {A1 A2 A3 : Option Addr} {c1 c2 c3 T N R : Nat} {st : Int} {G : GramD} (h : GBox w F B A1 c1 A2 c2 A3 c3 T N R st G) {k : Nat} (hk : k < T) : ∃ (b off : Nat) (x : ByteArray), A1 = some ⟨b, off, none⟩ ∧ b < w.heap.size ∧ G.terms[k]? = some x ∧ x.size ≤ maxLen ∧ w.cell? ⟨b, off + k, none⟩ = some (.string x) := by
  obtain ⟨-, -, -, hcell⟩ := h.gram.terms.at_
  obtain ⟨b, off, hA, hb, hc⟩ := hcell (by omega)
  obtain ⟨x, hx⟩ : ∃ x, G.terms[k]? = some x := ⟨_, List.getElem?_eq_getElem (by rw [← h.t]; exact hk)⟩
  exact ⟨b, off, x, hA, h.gram.lt b hb, hx, h.gram.sizes.1 x (List.mem_of_getElem? hx), hc k x hx⟩
theorem GBox.non {w : World} {F : Nat → Prop} {B : Nat} {A1 A2 A3 : Option Addr} {c1 c2 c3 T N R : Nat} {st : Int} {G : GramD} (h : GBox w F B A1 c1 A2 c2 A3 c3 T N R st G) {k : Nat} (hk : k < N) : ∃ (b off : Nat) (x : ByteArray), A2 = some ⟨b, off, none⟩ ∧ b < w.heap.size ∧ G.nons[k]? = some x ∧ x.size ≤ maxLen ∧ w.cell? ⟨b, off + k, none⟩ = some (.string x) := by
  obtain ⟨-, -, -, hcell⟩ := h.gram.nons.at_
  obtain ⟨b, off, hA, hb, hc⟩ := hcell (by omega)
  obtain ⟨x, hx⟩ : ∃ x, G.nons[k]? = some x := ⟨_, List.getElem?_eq_getElem (by rw [← h.n]; exact hk)⟩
  exact ⟨b, off, x, hA, h.gram.lt b hb, hx, h.gram.sizes.2 x (List.mem_of_getElem? hx), hc k x hx⟩

end

section
open Go.RowKit

theorem RdS.take {w : World} {F : Nat → Prop} {A : Option Addr} {n c k : Nat} {xs : List ByteArray} (h : RdS w F (.slice A n c) xs) (hk : k ≤ n) : RdS w F (.slice A k c) (xs.take k) := by
  obtain ⟨hn, h1, h2, hr⟩ := h.at_
  refine ⟨A, k, c, rfl, by omega, h2, by simp; omega, fun hp => ?_⟩
  obtain ⟨b, off, hA, hF, hc⟩ := hr (by omega)
  refine ⟨b, off, hA, hF, fun j u hu => ?_⟩
  rw [List.getElem?_map] at hu
  obtain ⟨x, hx, rfl⟩ := Option.map_eq_some_iff.1 hu
  have hj := (List.getElem?_eq_some_iff.1 hx).1
  rw [List.length_take] at hj
  rw [List.getElem?_take_of_lt (by omega)] at hx
  exact hc j x hx

theorem nodup_no {X : Type} {xs : List X} {k : Nat} {x : X} (hk : xs[k]? = some x) (h : x ∈ xs.take k) : ¬ xs.Nodup := by
  intro hn
  obtain ⟨j, hj, e⟩ := List.getElem_of_mem h
  rw [List.length_take] at hj
  rw [List.getElem_take] at e
  have hl := (List.getElem?_eq_some_iff.1 hk)
  obtain ⟨hl, e2⟩ := hl
  exact (List.pairwise_iff_getElem.1 hn) j k (by omega) hl (by omega) (by rw [e, e2])
theorem nodup_yes {X : Type} {xs : List X} (h : ∀ (k : Nat) (x : X), xs[k]? = some x → x ∉ xs.take k) : xs.Nodup := by
  rw [List.nodup_iff_pairwise_ne, List.pairwise_iff_getElem]
  intro i j hi hj hij e
  refine h j xs[j] (List.getElem?_eq_getElem hj) ?_
  rw [← e]
  exact List.mem_of_getElem? (i := i) (by rw [List.getElem?_take_of_lt hij]; exact List.getElem?_eq_getElem hi)

end

section
open Go.RowKit

theorem ownsRow_zero {w : World} {base cap : Nat} {e : TypeId} {Z : Array Value} (hb : base ≤ w.heap.size) (hc : cap ≤ maxLen) (hZ : Z.size = cap * 1) :
    (w.alloc (.cells Z e)).ownsRow base e 1 (.slice (some ⟨w.heap.size, 0, none⟩) 0 cap) 0 [] :=
  ⟨rfl, .inr ⟨w.heap.size, cap, Z, rfl, hb, heap_alloc_new w _, Nat.zero_le _, hc, hZ, by simp⟩⟩

set_option maxRecDepth 100000 in
set_option maxHeartbeats 1000000 in
theorem grow_nil (n : Nat) (hn : n ≤ 65536) (w : World) : Calls Try.prog 80 #[.slice none 0 0, .int .i64 n] w (OwnPost w 9 [] 0) := by
  by_cases h0 : 0 < n
  · obtain ⟨i, hi, hz, hsize, hby⟩ := info_parts Try.infoStr
    have happ := Lib.run_append_nil_zeros (P := Try.prog) w 33 3 33 9 i (.string ByteArray.empty) .i64 .i64 Try.underlying33 Try.underlying3 hi hz n h0 (by omega) (by omega) (by rw [hby]; omega)
    have hge := grownCap_ge w n 0 9
    have hle := grownCap_le_maxLen w n 0 9 (by unfold maxLen; omega)
    generalize grownCap w n 0 9 = cap at happ hge hle
    have hZs : (Builtin.zeroCells (Value.string ByteArray.empty).cells n ++ Builtin.zeroCells (Value.string ByteArray.empty).cells (cap - n)).size = cap * 1 := by simp [size_zeroCells, Value.cells]; omega
    generalize (Builtin.zeroCells (Value.string ByteArray.empty).cells n ++ Builtin.zeroCells (Value.string ByteArray.empty).cells (cap - n)) = Z at happ hZs
    have ho := ownsRow_zero (w := w.drew) (base := w.heap.size) (e := 9) (Nat.le_refl _) hle hZs
    have hb : Below w.heap.size w (w.drew.alloc (.cells Z 9)) := ((Below.refl _ w).drew).alloc (Nat.le_refl _) _
    unfold maxLen at hle
    clear hZs hi hz hsize hby
    have Xhapp := hide happ
    have Xho := hide ho
    have Xhb := hide hb
    clear happ ho hb
    go_enter Try.func80, Try.ntmps80
    go_wp2_with (at_builtin; refine Lib.wpList_append_run _ rfl _ _ _ _ rfl _ _ rfl rfl _ _ Xhapp.out ?_)
    go_ret
    exact ⟨some ⟨w.heap.size, 0, none⟩, cap, rfl, Xho.out, Xhb.out⟩
  · obtain rfl : n = 0 := by omega
    clear hn h0
    go_enter Try.func80, Try.ntmps80
    go_wp2_with fail
    go_ret
    exact ⟨none, 0, rfl, World.ownsRow_nil _ _ _ _, Below.refl _ _⟩

/-- two lists of texts, one behind the other -/
def catUpto (xs ys : List ByteArray) (k : Nat) : List ByteArray := if k = 0 then [] else if k = 1 then xs else xs ++ ys

set_option maxRecDepth 100000 in
set_option maxHeartbeats 2000000 in
theorem concat_two {w : World} {F : Nat → Prop} {va vb : Value} {xs ys : List ByteArray} {B : Nat} (ha : RdS w F va xs) (hb : RdS w F vb ys) (hF : ∀ b, F b → b < w.heap.size) (hk : Blk w B 33 #[va, vb]) (hl : xs.length + ys.length ≤ 65536) :
    Calls Try.prog 59 #[.slice (some ⟨B, 0, none⟩) 2 2] w (OwnPost w 9 ((xs ++ ys).map Value.string) (xs.length + ys.length)) := by
  have c0 : w.cell? ⟨B, 0, none⟩ = some va := (hk.cell 0).trans rfl
  have c1 : w.cell? ⟨B, 1, none⟩ = some vb := (hk.cell 1).trans rfl
  have hbl := hk.lt
  obtain ⟨A1, n1, d1, rfl, -⟩ := id ha
  obtain ⟨A2, n2, d2, rfl, -⟩ := id hb
  obtain ⟨e1, l1, m1, -⟩ := ha.at_
  obtain ⟨e2, l2, m2, -⟩ := hb.at_
  unfold maxLen at m1 m2
  rw [← e1, ← e2] at hl ⊢
  have hg := grow_nil (n1 + n2) hl w
  have ln1 : (xs.map Value.string).length = n1 * 1 := by simpa using e1.symm
  have ln2 : (ys.map Value.string).length = n2 * 1 := by simpa using e2.symm
  have hrd : ∀ wr, Below w.heap.size w wr → wr.cell? ⟨B, 0, none⟩ = some (.slice A1 n1 d1) ∧ wr.cell? ⟨B, 1, none⟩ = some (.slice A2 n2 d2) ∧ RdS wr F (.slice A1 n1 d1) xs ∧ RdS wr F (.slice A2 n2 d2) ys := fun wr h => ⟨(h.cell (p := ⟨B, 0, none⟩) hbl).trans c0, (h.cell (p := ⟨B, 1, none⟩) hbl).trans c1, ha.below h hF, hb.below h hF⟩
  have Xhrd := hide hrd
  have Xhg := hide hg
  have Xln1 := hide ln1
  have Xln2 := hide ln2
  have Xe1 := hide e1
  have Xe2 := hide e2
  clear hrd hg ln1 ln2 e1 e2
  clear ha hb hF hk
  go_enter Try.func59, Try.ntmps59
  go_wp2_with fail
  go_loopw [3, 11] (fun s i wr => ((i = .int .i64 0 ∧ s = .int .i64 0) ∨ (i = .int .i64 1 ∧ s = .int .i64 n1) ∨ (i = .int .i64 2 ∧ s = .int .i64 (n1 + n2 : Nat))) ∧ w = wr) (fun _ i _ => 2 - (intOf i).toNat)
  case atStart => exact ⟨.inl ⟨rfl, rfl⟩, rfl⟩
  case round =>
    obtain ⟨⟨rfl, rfl⟩ | ⟨rfl, rfl⟩ | ⟨rfl, rfl⟩, rfl⟩ := hrel
    · go_wp2_with fail
      go_roundw
      case rel => exact ⟨.inr (.inl ⟨rfl, rfl⟩), by first | rfl | trivial⟩
      case measure => simp [intOf]
    · go_wp2_with fail
      go_roundw
      case rel => exact ⟨.inr (.inr ⟨rfl, by go_num⟩), by first | rfl | trivial⟩
      case measure => simp [intOf]
    · clear c0 c1
      go_wp2_with fail
      refine Xhg.out.mono ?_
      rintro e w1 ⟨A, c, rfl, hown, hb⟩
      have Xhown := hide hown
      have Xhb := hide hb
      clear hown hb
      go_wp2_with fail
      go_loopw [6, 27] (fun s i wr => ∃ (A : Option Addr) (c : Nat), ((i = .int .i64 0 ∧ s = .slice A 0 c ∧ wr.ownsRow w.heap.size 9 1 (.slice A 0 c) 0 []) ∨ (i = .int .i64 1 ∧ s = .slice A n1 c ∧ wr.ownsRow w.heap.size 9 1 (.slice A n1 c) n1 (xs.map Value.string)) ∨ (i = .int .i64 2 ∧ s = .slice A (n1 + n2) c ∧ wr.ownsRow w.heap.size 9 1 (.slice A (n1 + n2) c) (n1 + n2) ((xs ++ ys).map Value.string))) ∧ Below w.heap.size w wr) (fun _ i _ => 2 - (intOf i).toNat)
      case atStart => exact ⟨A, c, .inl ⟨rfl, rfl, Xhown.out⟩, Xhb.out⟩
      case round =>
        clear Xhown Xhb
        obtain ⟨A, c, ⟨rfl, rfl, ho⟩ | ⟨rfl, rfl, ho⟩ | ⟨rfl, rfl, ho⟩, hb⟩ := hrel
        · obtain ⟨q0, q1, r0, r1⟩ := Xhrd.out wr hb
          have hbz := hb.size
          have Xho := hide ho
          have Xr0 := hide r0
          have Xr1 := hide r1
          have Xhb := hide hb
          clear ho r0 r1 hb
          go_wp2_with (at_builtin; refine wp_append _ rfl (.tmp 31) (.tmp 32) _ rfl Try.elemStr w.heap.size _ 0 [] rfl Xho.out F _ _ n1 rfl Xln1.out Xr0.out rds_ones (by unfold maxLen; omega) (by omega) hbz ?_)
          intro A' c' w2 hown2 hg2 hx2
          have ho2 : w2.ownsRow w.heap.size 9 1 (.slice A' n1 c') n1 (xs.map Value.string) := by simpa using hown2
          have hb2 := Xhb.out.grown hg2 hbz (fun q hq => (Xho.out.lt q hq).1)
          clear hown2 hx2
          have Xho2 := hide ho2
          have Xhb2 := hide hb2
          have Xhg2 := hide hg2
          clear ho2 hb2 hg2
          go_wp2_with fail
          go_roundw
          case rel => exact ⟨A', c', .inr (.inl ⟨rfl, rfl, Xho2.out⟩), Xhb2.out⟩
          case measure => simp [intOf]
        · obtain ⟨q0, q1, r0, r1⟩ := Xhrd.out wr hb
          have hbz := hb.size
          have Xho := hide ho
          have Xr0 := hide r0
          have Xr1 := hide r1
          have Xhb := hide hb
          clear ho r0 r1 hb
          go_wp2_with (at_builtin; refine wp_append _ rfl (.tmp 31) (.tmp 32) _ rfl Try.elemStr w.heap.size _ n1 (xs.map Value.string) rfl Xho.out F _ _ n2 rfl Xln2.out Xr1.out rds_ones (by unfold maxLen; omega) (by omega) hbz ?_)
          intro A' c' w2 hown2 hg2 hx2
          have ho2 : w2.ownsRow w.heap.size 9 1 (.slice A' (n1 + n2) c') (n1 + n2) ((xs ++ ys).map Value.string) := by rw [List.map_append]; exact hown2
          have hb2 := Xhb.out.grown hg2 hbz (fun q hq => (Xho.out.lt q hq).1)
          clear hown2 hx2
          have Xho2 := hide ho2
          have Xhb2 := hide hb2
          have Xhg2 := hide hg2
          clear ho2 hb2 hg2
          go_wp2_with fail
          go_roundw
          case rel => exact ⟨A', c', .inr (.inr ⟨rfl, rfl, Xho2.out⟩), Xhb2.out⟩
          case measure => simp [intOf]
        · have Xho := hide ho
          have Xhb := hide hb
          clear ho hb
          go_wp2_with fail
          go_ret
          exact ⟨A, c, rfl, Xho.out, Xhb.out⟩
end

section
open Go.RowKit
open Go.Maps (Keyed)

theorem Try.keyStr : Keyed Try.prog 9 := Maps.string_keyed Try.underlying9
theorem Try.zeroInt (w : World) : (zeroValue 3).run Try.prog w = .ok (.int .i64 0) w := by kernel_rfl

def skey (s : ByteArray) : Lit := .string s.data.toList
theorem skey_inj {s t : ByteArray} (h : skey s = skey t) : s = t := by
  unfold skey at h
  injection h with h
  exact bytes_ext (Array.toList_inj.1 h)
theorem skey_lit (s : ByteArray) : WideAt.IsKeyLit (skey s) := by unfold skey; simp [WideAt.IsKeyLit]
/-- how many there are, each once (from the end) -/
def dist : List ByteArray → Nat
  | [] => 0
  | s :: r => if s ∈ r then dist r else dist r + 1
theorem dist_le : ∀ l, dist l ≤ l.length
  | [] => Nat.le_refl _
  | s :: r => by
    have := dist_le r
    unfold dist
    split <;> simp <;> omega
theorem dist_nodup : ∀ l : List ByteArray, dist l = l.length ↔ l.Nodup
  | [] => by simp [dist]
  | s :: r => by
    have h1 := dist_le r
    have h2 := dist_nodup r
    unfold dist
    rw [List.nodup_cons, List.length_cons]
    by_cases h : s ∈ r
    · rw [if_pos h]
      constructor
      · intro e; omega
      · intro e; exact absurd h e.1
    · rw [if_neg h, ← h2]
      constructor
      · intro e; exact ⟨h, by omega⟩
      · intro e; omega
structure CountMap (D : DataW Unit) (xs : List ByteArray) : Prop where
  tidy : Maps.Tidy D
  has : ∀ s, Maps.has D (skey s) = true ↔ s ∈ xs
  size : Maps.size D = dist xs.reverse
  bound : ∀ s c, D.atKey (skey s) (.lit (.int .i64 0)) = .lit (.int .i64 c) → 0 ≤ c ∧ c ≤ xs.length
theorem tidy_isMap {D : DataW Unit} (h : Maps.Tidy D) : Maps.IsMap D := by obtain ⟨es, h, _⟩ := h; exact ⟨es, h⟩
theorem CountMap.empty : CountMap (.map []) [] := ⟨Maps.tidy_empty, fun _ => by simp [Maps.has], rfl, fun s c h => by
  have : (DataW.map [] : DataW Unit).atKey (skey s) (.lit (.int .i64 0)) = .lit (.int .i64 0) := rfl
  rw [this] at h
  injection h with h
  injection h with _ h
  simp; omega⟩
theorem CountMap.put {D : DataW Unit} {xs : List ByteArray} (h : CountMap D xs) {s : ByteArray} {c : Int} (hc : D.atKey (skey s) (.lit (.int .i64 0)) = .lit (.int .i64 c)) : CountMap (D.put (skey s) (.lit (.int .i64 (c + 1)))) (xs ++ [s]) := by
  have hk := skey_lit s
  have hm := tidy_isMap h.tidy
  refine ⟨h.tidy.put hk _, fun t => ?_, ?_, fun t d hd => ?_⟩
  · by_cases e : t = s
    · subst e
      rw [Maps.has_put_same hm hk]; simp
    · rw [Maps.has_put_other (fun c => e (skey_inj c)), h.has]; simp [e]
  · rw [Maps.size_put h.tidy, h.size, List.reverse_append]
    show _ = (if s ∈ xs.reverse then dist xs.reverse else dist xs.reverse + 1)
    by_cases e : s ∈ xs
    · rw [if_pos ((h.has s).2 e), if_pos (by simpa using e)]
    · rw [if_neg (fun c => e ((h.has s).1 c)), if_neg (by simpa using e)]
  · have hb := h.bound s c hc
    by_cases e : t = s
    · subst e
      rw [Maps.atKey_put_same hm hk] at hd
      injection hd with hd
      injection hd with _ hd
      simp; omega
    · rw [Maps.atKey_put_other (fun c => e (skey_inj c))] at hd
      have := h.bound t d hd
      simp; omega

theorem ERule.touch {w w' : World} {F S : Nat → Prop} {cs : List Value} {r : Int × List Int} (h : ERule w F cs r) (ht : Touch S w w') (hS : ∀ b, F b → ¬ S b) : ERule w' F cs r := by
  obtain ⟨v, e, hv⟩ := h
  exact ⟨v, e, hv.touch ht hS⟩
theorem IsGram.touch {w w' : World} {F S : Nat → Prop} {vt vn vr : Value} {G : GramD} (h : IsGram w F vt vn vr G) (ht : Touch S w w') (hS : ∀ b, F b → ¬ S b) : IsGram w' F vt vn vr G :=
  ⟨h.terms.touch ht hS, h.nons.touch ht hS, RdL.touch h.rules ht hS (fun cs x _ e => e.touch ht hS), fun b hb => Nat.lt_of_lt_of_le (h.lt b hb) ht.size, h.small, h.sizes, h.reach, h.wfs⟩
theorem GBox.touch {w w' : World} {F S : Nat → Prop} {B : Nat} {A1 A2 A3 : Option Addr} {c1 c2 c3 T N R : Nat} {st : Int} {G : GramD} (h : GBox w F B A1 c1 A2 c2 A3 c3 T N R st G) (ht : Touch S w w') (hS : ∀ b, F b → ¬ S b) (hB : ¬ S B) : GBox w' F B A1 c1 A2 c2 A3 c3 T N R st G :=
  ⟨h.gram.touch ht hS, h.blk.touch ht hB, h.t, h.n, h.r, h.tc, h.nc, h.rc, h.c1m, h.c2m, h.c3m, h.ts, h.ns, h.rs⟩

theorem onceOf_eq {G : GramD} : (dist (G.terms ++ G.nons).reverse = (G.terms ++ G.nons).length) ↔ (G.terms ++ G.nons).Nodup := by
  have := dist_nodup (G.terms ++ G.nons).reverse
  rw [List.length_reverse] at this
  rw [this]
  exact (List.reverse_perm _).nodup_iff

set_option maxRecDepth 100000 in
set_option maxHeartbeats 2000000 in
theorem gram_once {w : World} {F : Nat → Prop} {vt vn vr : Value} {G : GramD} (h : IsGram w F vt vn vr G) (st : Int) (hbd : G.terms.length + G.nons.length ≤ 65536) :
    Calls Try.prog 39 #[GV vt vn vr st] w (Quiet w (.bool (decide (G.terms ++ G.nons).Nodup))) := by
  obtain ⟨A1, c1, A2, c2, A3, c3, rfl, rfl, rfl, -⟩ := h.slices
  have g := GBox.new h st
  have hb0 : Below w.heap.size w (w.alloc (.cells #[.slice A1 G.terms.length c1, .slice A2 G.nons.length c2, .slice A3 G.rules.length c3, .int .i64 st] 36)) := (Below.refl _ w).alloc (Nat.le_refl _) _
  obtain ⟨w1, hw1⟩ : ∃ w1, w1 = w.alloc (.cells #[.slice A1 G.terms.length c1, .slice A2 G.nons.length c2, .slice A3 G.rules.length c3, .int .i64 st] 36) := ⟨_, rfl⟩
  have hz1 : w1.heap.size = w.heap.size + 1 := by rw [hw1]; simp
  rw [← hw1] at g hb0
  have hlen : (G.terms ++ G.nons).length = G.terms.length + G.nons.length := List.length_append
  have htop : topOf G = G.terms.length + G.nons.length := rfl
  have hon := @onceOf_eq G
  have hFw := h.lt
  have hsz : ∀ s ∈ G.terms ++ G.nons, s.size ≤ maxLen := fun s hs => by
    rcases List.mem_append.1 hs with e | e
    · exact h.sizes.1 s e
    · exact h.sizes.2 s e
  generalize hT : G.terms.length = T at *
  generalize hN : G.nons.length = N at *
  generalize hR : G.rules.length = R at *
  -- the map, and the two lists
  obtain ⟨w2, hw2⟩ : ∃ w2, w2 = w1.alloc (.map #[] 0) := ⟨_, rfl⟩
  have hm2 : w2.ownsMap Try.prog 9 (plainElem (H := Unit) Try.prog 3) (w.heap.size + 1) 0 (.map []) := by
    rw [hw2, ← hz1]; exact World.ownsMap_made w1 Try.prog 9 (plainElem (H := Unit) Try.prog 3)
  have hb2 : Below w1.heap.size w1 w2 := by rw [hw2]; exact (Below.refl _ w1).alloc (Nat.le_refl _) _
  have hz2 : w2.heap.size = w.heap.size + 2 := by rw [hw2]; simp; omega
  obtain ⟨w3, hw3⟩ : ∃ w3, w3 = w2.alloc (.cells #[.slice A1 T c1, .slice A2 N c2] 33) := ⟨_, rfl⟩
  have hb3 : Below w2.heap.size w2 w3 := by rw [hw3]; exact (Below.refl _ w2).alloc (Nat.le_refl _) _
  have g3 := (g.below hb2).below hb3
  have k3 : Blk w3 w2.heap.size 33 #[.slice A1 T c1, .slice A2 N c2] := by rw [hw3]; exact Blk.new w2 _ _
  have m3 : w3.ownsMap Try.prog 9 (plainElem (H := Unit) Try.prog 3) (w.heap.size + 1) 0 (.map []) := (Touch.of_size hb3 (fun _ => False)).ownsMap hm2 (fun e => e)
  have hcc := concat_two g3.gram.terms g3.gram.nons g3.gram.lt k3 (by omega)
  rw [hz2, hT, hN] at hcc
  obtain ⟨q0, q1, q2, q3⟩ := g.cells
  have hbel3 : Below w.heap.size w w3 := hb0.trans ((hb2.trans (hb3.mono hb2.size)).mono hb0.size)
  have hz3 : w3.heap.size = w.heap.size + 3 := by rw [hw3]; simp; omega
  have Xhcc := hide hcc
  have Xg3 := hide g3
  have Xm3 := hide m3
  have Xhbel3 := hide hbel3
  have Xhlen := hide hlen
  have Xhtop := hide htop
  have Xhon := hide hon
  have Xhsz := hide hsz
  have XhT := hide hT
  have XhN := hide hN
  have XhR := hide hR
  have XhFw := hide hFw
  clear hcc g3 m3 hbel3 hlen htop hon hsz hT hN hR hFw
  clear k3 hb3 hb2 hm2 g hb0
  rw [hw3, hw2, hw1] at Xhcc
  rw [hw1] at q0 q1 q2 q3
  have hmm := @run_makeMap Try.prog
  go_enter Try.func39, Try.ntmps39
  go_wp2_with fail
  refine Xhcc.out.mono ?_
  rintro e w4 ⟨A, c, rfl, hown, hb4⟩
  rw [← hw1, ← hw2, ← hw3] at hown hb4
  have hz4 : w3.heap.size ≤ w4.heap.size := hb4.size
  have hbk := hown.lt
  have m4 := (Touch.of_size hb4 (fun _ => False)).ownsMap Xm3.out (fun e => e)
  have g4 := Xg3.out.below hb4
  have hrd : RdS w4 (fun k => w.heap.size + 2 < k) (.slice A (T + N) c) (G.terms ++ G.nons) := (Rd.of_own hown).mono (fun k hk => by have := (hbk k hk).1; omega)
  have hb4' := Xhbel3.out.trans (hb4.mono Xhbel3.out.size)
  have hn1 := hrd.at_.2.1
  have hn2 := hrd.at_.2.2.1
  unfold maxLen at hn2
  clear hown hb4 hbk hw1 hw2 hw3 hmm q0 q1 q2 q3 Xhcc
  have Xhz3 := hide hz3
  have Xhz1 := hide hz1
  have Xhz2 := hide hz2
  clear hz3 hz1 hz2
  go_wp2_with fail
  go_loopw [14] (fun i wr => ∃ k : Nat, k ≤ T + N ∧ i = .int .i64 k ∧ (∃ D, wr.ownsMap Try.prog 9 (plainElem (H := Unit) Try.prog 3) (w.heap.size + 1) k D ∧ CountMap D ((G.terms ++ G.nons).take k)) ∧ GBox wr F w.heap.size A1 c1 A2 c2 A3 c3 T N R st G ∧ RdS wr (fun k => w.heap.size + 2 < k) (.slice A (T + N) c) (G.terms ++ G.nons) ∧ Below w.heap.size w wr) (fun i _ => T + N - (intOf i).toNat)
  case atStart => exact ⟨0, Nat.zero_le _, rfl, ⟨_, m4, by rw [List.take_zero]; exact CountMap.empty⟩, g4, hrd, hb4'⟩
  case round =>
    clear m4 g4 hrd hb4'
    obtain ⟨k, hk, rfl, ⟨D, hown, hD⟩, g, hrd, hb⟩ := hrel
    by_cases hlt : k < T + N
    · obtain ⟨-, -, -, hcell⟩ := hrd.at_
      obtain ⟨b, off, rfl, hbF, hc⟩ := hcell (by omega)
      obtain ⟨s, hs⟩ : ∃ s, (G.terms ++ G.nons)[k]? = some s := ⟨_, List.getElem?_eq_getElem (by rw [Xhlen.out]; exact hlt)⟩
      have hcs := hc k s hs
      have hsz := Xhsz.out s (List.mem_of_getElem? hs)
      have hkey : keyOf Try.prog 9 (.string s) = some (skey s) := Go.WideMaps.keyOf_string_mk Try.underlying9 hsz
      have hlt' : (k : Int) < ((T + N : Nat) : Int) := by omega
      have htk : (G.terms ++ G.nons).take (k + 1) = (G.terms ++ G.nons).take k ++ [s] := by rw [List.take_add_one, hs]; rfl
      have hlk : ((G.terms ++ G.nons).take k).length ≤ k := List.length_take_le _ _
      have Xhs := hide hs
      have XhD := hide hD
      have Xg := hide g
      have Xhrd := hide hrd
      have Xhb := hide hb
      have Xhtk := hide htk
      clear hs hD g hrd hb htk
      clear hc hcell hsz
      have hbd2 := XhD.out.bound s
      have Xhbd2 := hide hbd2
      clear hbd2
      go_wp2_with (first | (at_lookup; refine wpList_lookup_own_int _ rfl _ _ 58 rfl 9 3 .i64 Try.keyStr Try.underlying58 Try.underlying3 (Try.zeroInt _) _ _ D rfl hown _ _ rfl hkey ?_; intro c' hat hwc; obtain ⟨u1, u2⟩ := Xhbd2.out c' hat; have Xhat := hide hat; clear hat) | (at_mapUpdate; refine wpList_mapUpdate_own _ rfl _ _ _ 58 rfl 9 3 Try.keyStr Try.underlying58 _ (w.heap.size + 1) k D rfl hown (by unfold maxLen; omega) _ _ _ rfl rfl hkey _ [] (plainElem_int Try.underlying3 (WalkArith.wf_i64 (by omega))) ?_; intro w5 hown5 hg5))
      have hne1 : ∀ q, w.heap.size + 2 < q → ¬ (fun k => k = w.heap.size + 1) q := fun q hq e => by have : q = w.heap.size + 1 := e; omega
      have t5 : Touch (fun k => k = w.heap.size + 1) wr w5 := (Touch.refl _ wr).grown hg5 (fun q e _ => by injection e with e; exact e.symm)
      have g5 : GBox w5 F w.heap.size A1 c1 A2 c2 A3 c3 T N R st G := Xg.out.touch t5 (fun b hb e => by have := XhFw.out b hb; have : b = w.heap.size + 1 := e; omega) (fun e => by have : w.heap.size = w.heap.size + 1 := e; omega)
      have hb5 : Below w.heap.size w w5 := Xhb.out.grown hg5 Xhb.out.size (fun q e => by injection e with e; omega)
      have hrd5 := Xhrd.out.touch t5 hne1
      have hD5 := XhD.out.put Xhat.out
      rw [← Xhtk.out] at hD5
      have Xt5 := hide t5
      have Xg5 := hide g5
      have Xhrd5 := hide hrd5
      have XhD5 := hide hD5
      have Xhown5 := hide hown5
      have Xhb5 := hide hb5
      clear t5 g5 hrd5 hD5 hown5 hb5
      clear hg5 hne1
      go_wp2_with fail
      go_roundw
      case rel => exact ⟨k + 1, by omega, by go_num, ⟨_, Xhown5.out, XhD5.out⟩, Xg5.out, Xhrd5.out, Xhb5.out⟩
      case measure => simp [intOf]; omega
    · have hkn : k = T + N := by omega
      subst hkn
      obtain ⟨q0, q1, q2, q3⟩ := g.cells
      have hsd := hD.size
      rw [List.take_of_length_le (by rw [Xhlen.out]; omega)] at hsd
      have htp := gram_top g.gram st
      have hon := Xhon.out
      rw [← hsd, Xhlen.out] at hon
      rw [Xhtop.out] at htp
      by_cases hnd : (G.terms ++ G.nons).Nodup
      · have he : ((Maps.size D : Int) == (T : Int) + (N : Int)) = true := by rw [beq_iff_eq]; have := hon.2 hnd; omega
        have XhD := hide hD
        have Xg := hide g
        have Xhrd := hide hrd
        have Xhb := hide hb
        have Xhon := hide hon
        have Xhsd := hide hsd
        have Xhnd := hide hnd
        have Xhtp := hide htp
        clear hD g hrd hb hon hsd hnd htp
        go_wp2_with (at_len; refine wpList_len_own _ rfl _ 58 rfl 9 3 Try.underlying58 _ (w.heap.size + 1) (T + N) D rfl hown ?_)
        refine Xhtp.out.mono ?_
        rintro e w6 ⟨rfl, b6⟩
        go_wp2_with fail
        go_ret
        exact ⟨ret_bool (decide_eq_true Xhnd.out).symm, Xhb.out.trans (b6.mono Xhb.out.size)⟩
      · have he : ((Maps.size D : Int) == (T : Int) + (N : Int)) = false := by rw [beq_eq_false_iff_ne]; intro e; exact hnd (hon.1 (by omega))
        have XhD := hide hD
        have Xg := hide g
        have Xhrd := hide hrd
        have Xhb := hide hb
        have Xhon := hide hon
        have Xhsd := hide hsd
        have Xhnd := hide hnd
        have Xhtp := hide htp
        clear hD g hrd hb hon hsd hnd htp
        go_wp2_with (at_len; refine wpList_len_own _ rfl _ 58 rfl 9 3 Try.underlying58 _ (w.heap.size + 1) (T + N) D rfl hown ?_)
        refine Xhtp.out.mono ?_
        rintro e w6 ⟨rfl, b6⟩
        go_wp2_with fail
        go_ret
        exact ⟨ret_bool (decide_eq_false Xhnd.out).symm, Xhb.out.trans (b6.mono Xhb.out.size)⟩
end
end Go.Proofs.Ytlpokomfljmogaa
