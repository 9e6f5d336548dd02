/- Function values over lists. -/
import Derived.Test.YtlpokomfljmogaaG2
namespace Go.Proofs.Ytlpokomfljmogaa
set_option linter.unusedVariables false

section
open Go.RowKit

/-- the first of a list of which p is so -/
def firstBy {X : Type} (p : X → Bool) (xs : List X) : Int := match xs.findIdx? p with | some i => (i : Int) | none => -1
theorem firstBy_hit {X : Type} {p : X → Bool} {xs : List X} {i : Nat} {x : X} (h : xs[i]? = some x) (hp : p x = true) (hf : ∀ (j : Nat) (y : X), j < i → xs[j]? = some y → p y = false) : firstBy p xs = i := by
  obtain ⟨hlt, rfl⟩ := List.getElem?_eq_some_iff.1 h
  have : xs.findIdx? p = some i := by
    rw [List.findIdx?_eq_some_iff_getElem]
    exact ⟨hlt, hp, fun j hj => by
      have := hf j _ hj (List.getElem?_eq_getElem (by omega))
      simp [this]⟩
  unfold firstBy
  rw [this]
theorem firstBy_miss {X : Type} {p : X → Bool} {xs : List X} (hf : ∀ (j : Nat) (y : X), xs[j]? = some y → p y = false) : firstBy p xs = -1 := by
  have : xs.findIdx? p = none := by
    rw [List.findIdx?_eq_none_iff]
    intro x hx
    obtain ⟨j, hj, e⟩ := List.getElem_of_mem hx
    exact hf j x (by rw [List.getElem?_eq_getElem hj, e])
  unfold firstBy
  rw [this]
theorem firstBy_any {X : Type} {p : X → Bool} {xs : List X} : decide (0 ≤ firstBy p xs) = xs.any p := by
  unfold firstBy
  rcases h : xs.findIdx? p with _ | i
  · rw [List.findIdx?_eq_none_iff] at h
    have : xs.any p = false := by
      rw [List.any_eq_false]
      intro x hx
      simp [h x hx]
    rw [this]; rfl
  · rw [List.findIdx?_eq_some_iff_getElem] at h
    obtain ⟨hi, hp, _⟩ := h
    have : xs.any p = true := List.any_eq_true.2 ⟨_, List.getElem_mem hi, hp⟩
    rw [this]
    simp
theorem firstBy_lt {X : Type} {p : X → Bool} {xs : List X} : -1 ≤ firstBy p xs ∧ firstBy p xs < xs.length := by
  unfold firstBy
  rcases h : xs.findIdx? p with _ | i
  · simp; omega
  · rw [List.findIdx?_eq_some_iff_getElem] at h
    obtain ⟨hi, _, _⟩ := h
    simp; omega

/-- what is asked of a predicate on rules -/
def PredR (w : World) (F : Nat → Prop) (g : Nat) (lb : Array Value) (p : Int × List Int → Bool) : Prop :=
  ∀ (W : World) (v : Value) (r : Int × List Int), Below w.heap.size w W → RdI W F v r.2 → Calls Try.prog g (#[.agg #[.int .i64 r.1, v]] ++ lb) W (Quiet W (.bool (p r)))

set_option maxHeartbeats 2000000 in
theorem index_rules {w : World} {F : Nat → Prop} {v : Value} {rs : List (Int × List Int)} {g : Nat} {lb : Array Value} {p : Int × List Int → Bool} (h : RdR w F v rs) (hF : ∀ b, F b → b < w.heap.size) (eg : Enters Try.prog g) (hp : PredR w F g lb p) :
    Calls Try.prog 71 #[v, .func (.func g) #[] lb] w (Quiet w (.int .i64 (firstBy p rs))) := by
  obtain ⟨A, c, rfl, _⟩ := id h
  obtain ⟨-, hnc, hcm, hcell⟩ := ERule.at_ h
  obtain ⟨n, en⟩ : ∃ n, n = rs.length := ⟨_, rfl⟩
  rw [← en] at hnc hcell ⊢
  unfold maxLen at hcm
  have HN := hide en
  have HC := hide hcell
  have HF := hide hF
  have HP := hide hp
  have eg' : ∀ args w, (callFunc g args).run Try.prog w = .ok (.enter g args) w := eg
  clear h en hcell hF hp
  go_enter Try.func71, Try.ntmps71
  go_wp2
  go_loopw [8] (fun i wr => ∃ k : Nat, k ≤ n ∧ i = .int .i64 k ∧ Below w.heap.size w wr ∧ ∀ (j : Nat) (y : Int × List Int), j < k → rs[j]? = some y → p y = false) (fun i _ => n - (intOf i).toNat)
  case atStart => exact ⟨0, Nat.zero_le _, rfl, Below.refl _ _, fun j y hj => absurd hj (by omega)⟩
  case round =>
    obtain ⟨k, hk, rfl, hw, hbefore⟩ := hrel
    have HB := hide hbefore
    have HW := hide hw
    clear hbefore
    by_cases hlt : k < n
    · obtain ⟨b, off, rfl, hb, hc⟩ := HC.out (by omega)
      obtain ⟨l, x, vx, hx, hx0, hx1, hxr⟩ := RdR.get (n := n) HF.out hb hw hc (k := k) (by rw [← HN.out]; omega)
      have hs := HP.out wr vx (l, x) hw hxr
      have HX := hide hx
      cases hq : p (l, x) with
      | true =>
        rw [hq] at hs
        have HS := hide hs
        have HQ := hide hq
        clear hs hc hx hxr hw hq
        go_wp2_with (go_at_fn g; refine HS.out.mono ?_; rintro e w1 ⟨rfl, b1⟩)
        go_ret
        exact ⟨ret_int (firstBy_hit HX.out HQ.out HB.out).symm, HW.out.trans (b1.mono HW.out.size)⟩
      | false =>
        rw [hq] at hs
        have HS := hide hs
        have HQ := hide hq
        clear hs hc hx hxr hw hq
        go_wp2_with (go_at_fn g; refine HS.out.mono ?_; rintro e w1 ⟨rfl, b1⟩)
        go_roundw
        case rel =>
          refine ⟨k + 1, by omega, by go_num, HW.out.trans (b1.mono HW.out.size), fun j y hj hy => ?_⟩
          by_cases hjk : j = k
          · subst hjk; rw [HX.out] at hy; injection hy with hy; rw [← hy]; exact HQ.out
          · exact HB.out j y (by omega) hy
        case measure => simp [intOf]; omega
    · clear hw
      go_wp2
      go_ret
      exact ⟨ret_int (firstBy_miss fun j y hy => HB.out j y (by have := (List.getElem?_eq_some_iff.1 hy).1; have := HN.out; omega) hy).symm, HW.out⟩
end

section
open Go.RowKit

/-- what is asked of a predicate on one-cell values -/
def PredV {X : Type} (w : World) (g : Nat) (lb : Array Value) (enc : X → Value) (p : X → Bool) : Prop :=
  ∀ (W : World) (x : X), Below w.heap.size w W → Calls Try.prog g (#[enc x] ++ lb) W (Quiet W (.bool (p x)))

/-- the same at texts -/
def PredS (w : World) (g : Nat) (lb : Array Value) (p : ByteArray → Bool) : Prop :=
  ∀ (W : World) (x : ByteArray), x.size ≤ maxLen → Below w.heap.size w W → Calls Try.prog g (#[.string x] ++ lb) W (Quiet W (.bool (p x)))

theorem all_any {X : Type} (p : X → Bool) (xs : List X) : (!(decide (0 ≤ firstBy (fun x => !p x) xs))) = xs.all p := by
  rw [firstBy_any]
  induction xs with
  | nil => rfl
  | cons a r ih => simp only [List.any_cons, List.all_cons, ← ih]; cases p a <;> simp

set_option maxHeartbeats 2000000 in
theorem idxf_strs {w : World} {F : Nat → Prop} {v : Value} {rs : List ByteArray} {g : Nat} {lb : Array Value} {p : ByteArray → Bool} (h : RdS w F v rs) (hF : ∀ b, F b → b < w.heap.size) (eg : Enters Try.prog g) (hp : PredS w g lb p) (hz : ∀ x ∈ rs, x.size ≤ maxLen) :
    Calls Try.prog 72 #[v, .func (.func g) #[] lb] w (Quiet w (.int .i64 (firstBy p rs))) := by
  obtain ⟨A, n, c, rfl, _⟩ := id h
  obtain ⟨en, hnc, hcm, hcell⟩ := h.at_
  unfold maxLen at hcm
  have HN := hide en
  have HC := hide hcell
  have HF := hide hF
  have HP := hide hp
  have eg' : ∀ args w, (callFunc g args).run Try.prog w = .ok (.enter g args) w := eg
  clear h en hcell hF hp
  go_enter Try.func72, Try.ntmps72
  go_wp2
  go_loopw [8] (fun i wr => ∃ k : Nat, k ≤ n ∧ i = .int .i64 k ∧ Below w.heap.size w wr ∧ ∀ (j : Nat) (y : ByteArray), j < k → rs[j]? = some y → p y = false) (fun i _ => n - (intOf i).toNat)
  case atStart => exact ⟨0, Nat.zero_le _, rfl, Below.refl _ _, fun j y hj => absurd hj (by omega)⟩
  case round =>
    obtain ⟨k, hk, rfl, hw, hbefore⟩ := hrel
    have HB := hide hbefore
    have HW := hide hw
    clear hbefore
    by_cases hlt : k < n
    · obtain ⟨b, off, rfl, hb, hc⟩ := HC.out (by omega)
      obtain ⟨x, hx⟩ : ∃ x, rs[k]? = some x := ⟨_, List.getElem?_eq_getElem (by rw [← HN.out]; omega)⟩
      have hx0 := (hw.cell (p := ⟨b, off + k, none⟩) (HF.out b hb)).trans (hc k x hx)
      have hs := HP.out wr x (hz x (List.mem_of_getElem? hx)) hw
      have HX := hide hx
      cases hq : p x with
      | true =>
        rw [hq] at hs
        have HS := hide hs
        have HQ := hide hq
        clear hs hc hx hw hq
        go_wp2_with (go_at_fn g; refine HS.out.mono ?_; rintro e w1 ⟨rfl, b1⟩)
        go_ret
        exact ⟨ret_int (firstBy_hit HX.out HQ.out HB.out).symm, HW.out.trans (b1.mono HW.out.size)⟩
      | false =>
        rw [hq] at hs
        have HS := hide hs
        have HQ := hide hq
        clear hs hc hx hw hq
        go_wp2_with (go_at_fn g; refine HS.out.mono ?_; rintro e w1 ⟨rfl, b1⟩)
        go_roundw
        case rel =>
          refine ⟨k + 1, by omega, by go_num, HW.out.trans (b1.mono HW.out.size), fun j y hj hy => ?_⟩
          by_cases hjk : j = k
          · subst hjk; rw [HX.out] at hy; injection hy with hy; rw [← hy]; exact HQ.out
          · exact HB.out j y (by omega) hy
        case measure => simp [intOf]; omega
    · clear hw
      go_wp2
      go_ret
      exact ⟨ret_int (firstBy_miss fun j y hy => HB.out j y (by have := (List.getElem?_eq_some_iff.1 hy).1; have := HN.out; omega) hy).symm, HW.out⟩

theorem contains_strs {w : World} {F : Nat → Prop} {v : Value} {rs : List ByteArray} {g : Nat} {lb : Array Value} {p : ByteArray → Bool} (h : RdS w F v rs) (hF : ∀ b, F b → b < w.heap.size) (eg : Enters Try.prog g) (hp : PredS w g lb p) (hz : ∀ x ∈ rs, x.size ≤ maxLen) :
    Calls Try.prog 55 #[v, .func (.func g) #[] lb] w (Quiet w (.bool (rs.any p))) := by
  have hi := idxf_strs h hF eg hp hz
  have ha := firstBy_any (p := p) (xs := rs)
  obtain ⟨q, hq⟩ : ∃ q, q = firstBy p rs := ⟨_, rfl⟩
  rw [← hq] at hi ha
  have HI := hide hi
  have HA := hide ha
  obtain ⟨A, c, n, rfl⟩ : ∃ A c n, v = .slice A n c := by obtain ⟨A, n, c, e, _⟩ := id h; exact ⟨A, c, n, e⟩
  clear h hi ha hq hp
  go_enter Try.func55, Try.ntmps55
  go_wp2_with fail
  refine HI.out.mono ?_
  rintro e w1 ⟨rfl, b1⟩
  go_wp2_with fail
  go_ret
  exact ⟨ret_bool HA.out, b1⟩

theorem Try.enters_all_strs : Enters Try.prog 56 := enters_of Try.func56 (by kernel_rfl) rfl
theorem all_clo_strs {w w1 : World} {g : Nat} {lb : Array Value} {p : ByteArray → Bool} {B : Nat} (k1 : Blk w1 B 75 #[.func (.func g) #[] lb]) (eg : Enters Try.prog g) (b1 : Below w.heap.size w w1) (hp : PredS w g lb p) :
    PredS w1 56 #[.pointer (some ⟨B, 0, none⟩)] (fun x => !p x) := by
  intro W x hx hW
  have hcell : W.cell? ⟨B, 0, none⟩ = some (.func (.func g) #[] lb) := ((k1.below hW k1.lt).cell 0).trans rfl
  have hs := hp W x hx (b1.trans (hW.mono b1.size))
  have eg' : ∀ args w, (callFunc g args).run Try.prog w = .ok (.enter g args) w := eg
  obtain ⟨q, hq⟩ : ∃ q, q = p x := ⟨_, rfl⟩
  rw [← hq] at hs
  have HS := hide hs
  have HQ := hide hq
  show Calls Try.prog 56 #[.string x, .pointer (some ⟨B, 0, none⟩)] W _
  clear hs hq hp k1 hW
  go_enter Try.func56, Try.ntmps56
  go_wp2_with (go_at_fn g; refine HS.out.mono ?_; rintro e w2 ⟨rfl, b2⟩)
  go_ret
  exact ⟨ret_bool (show (!q) = !p x by rw [HQ.out]), b2⟩

theorem all_strs {w : World} {F : Nat → Prop} {v : Value} {rs : List ByteArray} {g : Nat} {lb : Array Value} {p : ByteArray → Bool} (h : RdS w F v rs) (hF : ∀ b, F b → b < w.heap.size) (eg : Enters Try.prog g) (hp : PredS w g lb p) (hz : ∀ x ∈ rs, x.size ≤ maxLen) :
    Calls Try.prog 35 #[v, .func (.func g) #[] lb] w (Quiet w (.bool (rs.all p))) := by
  obtain ⟨o, ho⟩ : ∃ o, o = Obj.cells #[.func (.func g) #[] lb] 75 := ⟨_, rfl⟩
  have b1 : Below w.heap.size w (w.alloc o) := (Below.refl _ w).alloc (Nat.le_refl _) _
  have h1 := h.below b1 hF
  have k1 : Blk (w.alloc o) w.heap.size 75 #[.func (.func g) #[] lb] := by rw [ho]; exact Blk.new w _ _
  have hc := contains_strs (p := fun x => !p x) (lb := #[.pointer (some ⟨w.heap.size, 0, none⟩)]) h1 (fun b e => Nat.lt_of_lt_of_le (hF b e) b1.size) Try.enters_all_strs (all_clo_strs k1 eg b1 hp) hz
  have ha := all_any p rs
  rw [firstBy_any] at ha
  obtain ⟨q, hq⟩ : ∃ q, q = rs.any (fun x => !p x) := ⟨_, rfl⟩
  rw [← hq] at hc ha
  have HI := hide hc
  have HA := hide ha
  have HB := hide b1
  rw [ho] at HI HB
  obtain ⟨A, c, n, rfl⟩ : ∃ A c n, v = .slice A n c := by obtain ⟨A, n, c, e, _⟩ := id h; exact ⟨A, c, n, e⟩
  clear h hc ha hq hp h1 k1 b1 ho
  have hmf : ∀ (fn : Fn) (first cap : Array Value) (w : World), (Instr.makeFunc fn first cap).run Try.prog w = .ok (.func fn first cap) w := fun _ _ _ _ => rfl
  go_enter Try.func35, Try.ntmps35
  go_wp2_with fail
  refine HI.out.mono ?_
  rintro e w1 ⟨rfl, b1⟩
  go_wp2_with fail
  go_ret
  exact ⟨ret_bool HA.out, HB.out.trans (b1.mono HB.out.size)⟩

set_option maxHeartbeats 2000000 in
theorem idxf_ints {w : World} {F : Nat → Prop} {v : Value} {rs : List Int} {g : Nat} {lb : Array Value} {p : Int → Bool} (h : RdI w F v rs) (hF : ∀ b, F b → b < w.heap.size) (eg : Enters Try.prog g) (hp : PredV w g lb (Value.int .i64) p) :
    Calls Try.prog 87 #[v, .func (.func g) #[] lb] w (Quiet w (.int .i64 (firstBy p rs))) := by
  obtain ⟨A, n, c, rfl, _⟩ := id h
  obtain ⟨en, hnc, hcm, hcell⟩ := h.at_
  unfold maxLen at hcm
  have HN := hide en
  have HC := hide hcell
  have HF := hide hF
  have HP := hide hp
  have eg' : ∀ args w, (callFunc g args).run Try.prog w = .ok (.enter g args) w := eg
  clear h en hcell hF hp
  go_enter Try.func87, Try.ntmps87
  go_wp2
  go_loopw [8] (fun i wr => ∃ k : Nat, k ≤ n ∧ i = .int .i64 k ∧ Below w.heap.size w wr ∧ ∀ (j : Nat) (y : Int), j < k → rs[j]? = some y → p y = false) (fun i _ => n - (intOf i).toNat)
  case atStart => exact ⟨0, Nat.zero_le _, rfl, Below.refl _ _, fun j y hj => absurd hj (by omega)⟩
  case round =>
    obtain ⟨k, hk, rfl, hw, hbefore⟩ := hrel
    have HB := hide hbefore
    have HW := hide hw
    clear hbefore
    by_cases hlt : k < n
    · obtain ⟨b, off, rfl, hb, hc⟩ := HC.out (by omega)
      obtain ⟨x, hx⟩ : ∃ x, rs[k]? = some x := ⟨_, List.getElem?_eq_getElem (by rw [← HN.out]; omega)⟩
      have hx0 := (hw.cell (p := ⟨b, off + k, none⟩) (HF.out b hb)).trans (hc k x hx)
      have hs := HP.out wr x hw
      have HX := hide hx
      cases hq : p x with
      | true =>
        rw [hq] at hs
        have HS := hide hs
        have HQ := hide hq
        clear hs hc hx hw hq
        go_wp2_with (go_at_fn g; refine HS.out.mono ?_; rintro e w1 ⟨rfl, b1⟩)
        go_ret
        exact ⟨ret_int (firstBy_hit HX.out HQ.out HB.out).symm, HW.out.trans (b1.mono HW.out.size)⟩
      | false =>
        rw [hq] at hs
        have HS := hide hs
        have HQ := hide hq
        clear hs hc hx hw hq
        go_wp2_with (go_at_fn g; refine HS.out.mono ?_; rintro e w1 ⟨rfl, b1⟩)
        go_roundw
        case rel =>
          refine ⟨k + 1, by omega, by go_num, HW.out.trans (b1.mono HW.out.size), fun j y hj hy => ?_⟩
          by_cases hjk : j = k
          · subst hjk; rw [HX.out] at hy; injection hy with hy; rw [← hy]; exact HQ.out
          · exact HB.out j y (by omega) hy
        case measure => simp [intOf]; omega
    · clear hw
      go_wp2
      go_ret
      exact ⟨ret_int (firstBy_miss fun j y hy => HB.out j y (by have := (List.getElem?_eq_some_iff.1 hy).1; have := HN.out; omega) hy).symm, HW.out⟩

theorem contains_ints {w : World} {F : Nat → Prop} {v : Value} {rs : List Int} {g : Nat} {lb : Array Value} {p : Int → Bool} (h : RdI w F v rs) (hF : ∀ b, F b → b < w.heap.size) (eg : Enters Try.prog g) (hp : PredV w g lb (Value.int .i64) p) :
    Calls Try.prog 81 #[v, .func (.func g) #[] lb] w (Quiet w (.bool (rs.any p))) := by
  have hi := idxf_ints h hF eg hp
  have ha := firstBy_any (p := p) (xs := rs)
  obtain ⟨q, hq⟩ : ∃ q, q = firstBy p rs := ⟨_, rfl⟩
  rw [← hq] at hi ha
  have HI := hide hi
  have HA := hide ha
  obtain ⟨A, c, n, rfl⟩ : ∃ A c n, v = .slice A n c := by obtain ⟨A, n, c, e, _⟩ := id h; exact ⟨A, c, n, e⟩
  clear h hi ha hq hp
  go_enter Try.func81, Try.ntmps81
  go_wp2_with fail
  refine HI.out.mono ?_
  rintro e w1 ⟨rfl, b1⟩
  go_wp2_with fail
  go_ret
  exact ⟨ret_bool HA.out, b1⟩

theorem Try.enters_all_ints : Enters Try.prog 82 := enters_of Try.func82 (by kernel_rfl) rfl
theorem all_clo_ints {w w1 : World} {g : Nat} {lb : Array Value} {p : Int → Bool} {B : Nat} (k1 : Blk w1 B 93 #[.func (.func g) #[] lb]) (eg : Enters Try.prog g) (b1 : Below w.heap.size w w1) (hp : PredV w g lb (Value.int .i64) p) :
    PredV w1 82 #[.pointer (some ⟨B, 0, none⟩)] (Value.int .i64) (fun x => !p x) := by
  intro W x hW
  have hcell : W.cell? ⟨B, 0, none⟩ = some (.func (.func g) #[] lb) := ((k1.below hW k1.lt).cell 0).trans rfl
  have hs := hp W x (b1.trans (hW.mono b1.size))
  have eg' : ∀ args w, (callFunc g args).run Try.prog w = .ok (.enter g args) w := eg
  obtain ⟨q, hq⟩ : ∃ q, q = p x := ⟨_, rfl⟩
  rw [← hq] at hs
  have HS := hide hs
  have HQ := hide hq
  show Calls Try.prog 82 #[.int .i64 x, .pointer (some ⟨B, 0, none⟩)] W _
  clear hs hq hp k1 hW
  go_enter Try.func82, Try.ntmps82
  go_wp2_with (go_at_fn g; refine HS.out.mono ?_; rintro e w2 ⟨rfl, b2⟩)
  go_ret
  exact ⟨ret_bool (show (!q) = !p x by rw [HQ.out]), b2⟩

theorem all_ints {w : World} {F : Nat → Prop} {v : Value} {rs : List Int} {g : Nat} {lb : Array Value} {p : Int → Bool} (h : RdI w F v rs) (hF : ∀ b, F b → b < w.heap.size) (eg : Enters Try.prog g) (hp : PredV w g lb (Value.int .i64) p) :
    Calls Try.prog 60 #[v, .func (.func g) #[] lb] w (Quiet w (.bool (rs.all p))) := by
  obtain ⟨o, ho⟩ : ∃ o, o = Obj.cells #[.func (.func g) #[] lb] 93 := ⟨_, rfl⟩
  have b1 : Below w.heap.size w (w.alloc o) := (Below.refl _ w).alloc (Nat.le_refl _) _
  have h1 := h.below b1 hF
  have k1 : Blk (w.alloc o) w.heap.size 93 #[.func (.func g) #[] lb] := by rw [ho]; exact Blk.new w _ _
  have hc := contains_ints (p := fun x => !p x) (lb := #[.pointer (some ⟨w.heap.size, 0, none⟩)]) h1 (fun b e => Nat.lt_of_lt_of_le (hF b e) b1.size) Try.enters_all_ints (all_clo_ints k1 eg b1 hp)
  have ha := all_any p rs
  rw [firstBy_any] at ha
  obtain ⟨q, hq⟩ : ∃ q, q = rs.any (fun x => !p x) := ⟨_, rfl⟩
  rw [← hq] at hc ha
  have HI := hide hc
  have HA := hide ha
  have HB := hide b1
  rw [ho] at HI HB
  obtain ⟨A, c, n, rfl⟩ : ∃ A c n, v = .slice A n c := by obtain ⟨A, n, c, e, _⟩ := id h; exact ⟨A, c, n, e⟩
  clear h hc ha hq hp h1 k1 b1 ho
  have hmf : ∀ (fn : Fn) (first cap : Array Value) (w : World), (Instr.makeFunc fn first cap).run Try.prog w = .ok (.func fn first cap) w := fun _ _ _ _ => rfl
  go_enter Try.func60, Try.ntmps60
  go_wp2_with fail
  refine HI.out.mono ?_
  rintro e w1 ⟨rfl, b1⟩
  go_wp2_with fail
  go_ret
  exact ⟨ret_bool HA.out, HB.out.trans (b1.mono HB.out.size)⟩

theorem contains_rules {w : World} {F : Nat → Prop} {v : Value} {rs : List (Int × List Int)} {g : Nat} {lb : Array Value} {p : (Int × List Int) → Bool} (h : RdR w F v rs) (hF : ∀ b, F b → b < w.heap.size) (eg : Enters Try.prog g) (hp : PredR w F g lb p) :
    Calls Try.prog 53 #[v, .func (.func g) #[] lb] w (Quiet w (.bool (rs.any p))) := by
  have hi := index_rules h hF eg hp
  have ha := firstBy_any (p := p) (xs := rs)
  obtain ⟨q, hq⟩ : ∃ q, q = firstBy p rs := ⟨_, rfl⟩
  rw [← hq] at hi ha
  have HI := hide hi
  have HA := hide ha
  obtain ⟨A, c, n, rfl⟩ : ∃ A c n, v = .slice A n c := by obtain ⟨A, c, e, _⟩ := id h; exact ⟨A, c, _, e⟩
  clear h hi ha hq hp
  go_enter Try.func53, Try.ntmps53
  go_wp2_with fail
  refine HI.out.mono ?_
  rintro e w1 ⟨rfl, b1⟩
  go_wp2_with fail
  go_ret
  exact ⟨ret_bool HA.out, b1⟩

theorem Try.enters_all_rules : Enters Try.prog 54 := enters_of Try.func54 (by kernel_rfl) rfl
theorem all_clo_rules {w w1 : World} {F : Nat → Prop} {g : Nat} {lb : Array Value} {p : Int × List Int → Bool} {B : Nat} (k1 : Blk w1 B 72 #[.func (.func g) #[] lb]) (eg : Enters Try.prog g) (b1 : Below w.heap.size w w1) (hp : PredR w F g lb p) (hF : ∀ b, F b → b < w.heap.size) :
    PredR w1 F 54 #[.pointer (some ⟨B, 0, none⟩)] (fun x => !p x) := by
  intro W v r hW hr
  have hbw := b1.trans (hW.mono b1.size)
  have hB : B < W.heap.size := Nat.lt_of_lt_of_le k1.lt hW.size
  have b2 : Below W.heap.size W (W.alloc (.cells #[.int .i64 r.1, v] 47)) := (Below.refl _ W).alloc (Nat.le_refl _) _
  have hcell : W.cell? ⟨B, 0, none⟩ = some (.func (.func g) #[] lb) := ((k1.below hW k1.lt).cell 0).trans rfl
  have hcell' := fun o => cell_a hcell o
  have hs := hp (W.alloc (.cells #[.int .i64 r.1, v] 47)) v r (hbw.trans (b2.mono hbw.size)) (hr.below b2 (fun b e => Nat.lt_of_lt_of_le (hF b e) hbw.size))
  have eg' : ∀ args w, (callFunc g args).run Try.prog w = .ok (.enter g args) w := eg
  obtain ⟨A, n, c, rfl, _⟩ := id hr
  obtain ⟨q, hq⟩ : ∃ q, q = p r := ⟨_, rfl⟩
  rw [← hq] at hs
  have HS := hide hs
  have HQ := hide hq
  have HB := hide b2
  show Calls Try.prog 54 #[.agg #[.int .i64 r.1, .slice A n c], .pointer (some ⟨B, 0, none⟩)] W _
  clear hs hq hp k1 hW b2 hr
  go_enter Try.func54, Try.ntmps54
  go_wp2_with (go_at_fn g; refine HS.out.mono ?_; rintro e w2 ⟨rfl, b2⟩)
  go_ret
  exact ⟨ret_bool (show (!q) = !p r by rw [HQ.out]), HB.out.trans (b2.mono HB.out.size)⟩

theorem all_rules {w : World} {F : Nat → Prop} {v : Value} {rs : List (Int × List Int)} {g : Nat} {lb : Array Value} {p : (Int × List Int) → Bool} (h : RdR w F v rs) (hF : ∀ b, F b → b < w.heap.size) (eg : Enters Try.prog g) (hp : PredR w F g lb p) :
    Calls Try.prog 34 #[v, .func (.func g) #[] lb] w (Quiet w (.bool (rs.all p))) := by
  obtain ⟨o, ho⟩ : ∃ o, o = Obj.cells #[.func (.func g) #[] lb] 72 := ⟨_, rfl⟩
  have b1 : Below w.heap.size w (w.alloc o) := (Below.refl _ w).alloc (Nat.le_refl _) _
  have h1 := h.below b1 hF
  have k1 : Blk (w.alloc o) w.heap.size 72 #[.func (.func g) #[] lb] := by rw [ho]; exact Blk.new w _ _
  have hc := contains_rules (p := fun x => !p x) (lb := #[.pointer (some ⟨w.heap.size, 0, none⟩)]) h1 (fun b e => Nat.lt_of_lt_of_le (hF b e) b1.size) Try.enters_all_rules (all_clo_rules k1 eg b1 hp hF)
  have ha := all_any p rs
  rw [firstBy_any] at ha
  obtain ⟨q, hq⟩ : ∃ q, q = rs.any (fun x => !p x) := ⟨_, rfl⟩
  rw [← hq] at hc ha
  have HI := hide hc
  have HA := hide ha
  have HB := hide b1
  rw [ho] at HI HB
  obtain ⟨A, c, n, rfl⟩ : ∃ A c n, v = .slice A n c := by obtain ⟨A, c, e, _⟩ := id h; exact ⟨A, c, _, e⟩
  clear h hc ha hq hp h1 k1 b1 ho
  have hmf : ∀ (fn : Fn) (first cap : Array Value) (w : World), (Instr.makeFunc fn first cap).run Try.prog w = .ok (.func fn first cap) w := fun _ _ _ _ => rfl
  go_enter Try.func34, Try.ntmps34
  go_wp2_with fail
  refine HI.out.mono ?_
  rintro e w1 ⟨rfl, b1⟩
  go_wp2_with fail
  go_ret
  exact ⟨ret_bool HA.out, HB.out.trans (b1.mono HB.out.size)⟩
end

section
open Go.RowKit

theorem quiet_left {P : Program} {f : FuncId} {args : Array Value} {w : World} {n : Nat} {v : Value}
    (h : Calls P f args (w.drewN n) fun e w' => e = .returned v ∧ w.drewN n = w') : Calls P f args (w.drewN n) fun e w' => e = .returned v ∧ ∃ m, w' = w.drewN m :=
  h.mono fun _ _ ⟨he, hw⟩ => ⟨he, n, hw.symm⟩

theorem quiet_left2 {P : Program} {f : FuncId} {args : Array Value} {w : World} {q n : Nat} {v : Value}
    (h : Calls P f args (w.drewN (q + n)) fun e w' => e = .returned v ∧ w.drewN (q + n) = w') : Calls P f args (w.drewN (q + n)) fun e w' => e = .returned v ∧ ∃ m, w' = w.drewN (q + m) :=
  h.mono fun _ _ ⟨he, hw⟩ => ⟨he, n, hw.symm⟩

/-- no next one is less -/
def sortedL (l : List Int) : Bool := (List.range (l.length - 1)).all (fun j => !decide (l[j + 1]?.getD 0 < l[j]?.getD 0))
theorem sortedL_iff {l : List Int} : sortedL l = true ↔ ∀ j : Nat, j + 1 < l.length → ¬ (l[j + 1]?.getD 0 < l[j]?.getD 0) := by
  unfold sortedL
  rw [List.all_eq_true]
  constructor
  · intro h j hj
    have := h j (by rw [List.mem_range]; omega)
    simpa using this
  · intro h j hj
    rw [List.mem_range] at hj
    have := h j (by omega)
    simpa using this

end
end Go.Proofs.Ytlpokomfljmogaa
