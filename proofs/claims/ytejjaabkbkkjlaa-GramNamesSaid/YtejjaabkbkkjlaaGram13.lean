/- slices.IndexFunc at texts and numbers, ContainsFunc and gram.all at texts, numbers, rules, with any function value whose call is known. -/
import Derived.Test.YtejjaabkbkkjlaaGram12
namespace Go.Proofs.Ytejjaabkbkkjlaa
set_option linter.unusedVariables false
open Go.RowKit

/-- what is asked of a predicate on one-cell values -/
def PredV {X : Type} (w : World) (g : Nat) (lb : Array Value) (enc : X → Value) (p : X → Bool) : Prop :=
  ∀ (W : World) (x : X), Below w.heap.size w W → Calls Try.prog g (#[enc x] ++ lb) W (Quiet W (.bool (p x)))

/-- the same at texts -/
def PredS (w : World) (g : Nat) (lb : Array Value) (p : ByteArray → Bool) : Prop :=
  ∀ (W : World) (x : ByteArray), x.size ≤ maxLen → Below w.heap.size w W → Calls Try.prog g (#[.string x] ++ lb) W (Quiet W (.bool (p x)))

theorem all_any {X : Type} (p : X → Bool) (xs : List X) : (!(decide (0 ≤ firstBy (fun x => !p x) xs))) = xs.all p := by
  rw [firstBy_any]
  induction xs with
  | nil => rfl
  | cons a r ih => simp only [List.any_cons, List.all_cons, ← ih]; cases p a <;> simp

set_option maxHeartbeats 2000000 in
theorem idxf_strs {w : World} {F : Nat → Prop} {v : Value} {rs : List ByteArray} {g : Nat} {lb : Array Value} {p : ByteArray → Bool} (h : RdS w F v rs) (hF : ∀ b, F b → b < w.heap.size) (eg : Enters Try.prog g) (hp : PredS w g lb p) (hz : ∀ x ∈ rs, x.size ≤ maxLen) :
    Calls Try.prog 148 #[v, .func (.func g) #[] lb] w (Quiet w (.int .i64 (firstBy p rs))) := by
  obtain ⟨A, n, c, rfl, _⟩ := id h
  obtain ⟨en, hnc, hcm, hcell⟩ := h.at_
  unfold maxLen at hcm
  have HN := hide en
  have HC := hide hcell
  have HF := hide hF
  have HP := hide hp
  have eg' : ∀ args w, (callFunc g args).run Try.prog w = .ok (.enter g args) w := eg
  clear h en hcell hF hp
  go_enter Try.func148, Try.ntmps148
  go_wp2
  go_loopw [8] (fun i wr => ∃ k : Nat, k ≤ n ∧ i = .int .i64 k ∧ Below w.heap.size w wr ∧ ∀ (j : Nat) (y : ByteArray), j < k → rs[j]? = some y → p y = false) (fun i _ => n - (intOf i).toNat)
  case atStart => exact ⟨0, Nat.zero_le _, rfl, Below.refl _ _, fun j y hj => absurd hj (by omega)⟩
  case round =>
    obtain ⟨k, hk, rfl, hw, hbefore⟩ := hrel
    have HB := hide hbefore
    have HW := hide hw
    clear hbefore
    by_cases hlt : k < n
    · obtain ⟨b, off, rfl, hb, hc⟩ := HC.out (by omega)
      obtain ⟨x, hx⟩ : ∃ x, rs[k]? = some x := ⟨_, List.getElem?_eq_getElem (by rw [← HN.out]; omega)⟩
      have hx0 := (hw.cell (p := ⟨b, off + k, none⟩) (HF.out b hb)).trans (hc k x hx)
      have hs := HP.out wr x (hz x (List.mem_of_getElem? hx)) hw
      have HX := hide hx
      cases hq : p x with
      | true =>
        rw [hq] at hs
        have HS := hide hs
        have HQ := hide hq
        clear hs hc hx hw hq
        go_wp2_with (go_at_fn g; refine HS.out.mono ?_; rintro e w1 ⟨rfl, b1⟩)
        go_ret
        exact ⟨ret_int (firstBy_hit HX.out HQ.out HB.out).symm, HW.out.trans (b1.mono HW.out.size)⟩
      | false =>
        rw [hq] at hs
        have HS := hide hs
        have HQ := hide hq
        clear hs hc hx hw hq
        go_wp2_with (go_at_fn g; refine HS.out.mono ?_; rintro e w1 ⟨rfl, b1⟩)
        go_roundw
        case rel =>
          refine ⟨k + 1, by omega, by go_num, HW.out.trans (b1.mono HW.out.size), fun j y hj hy => ?_⟩
          by_cases hjk : j = k
          · subst hjk; rw [HX.out] at hy; injection hy with hy; rw [← hy]; exact HQ.out
          · exact HB.out j y (by omega) hy
        case measure => simp [intOf]; omega
    · clear hw
      go_wp2
      go_ret
      exact ⟨ret_int (firstBy_miss fun j y hy => HB.out j y (by have := (List.getElem?_eq_some_iff.1 hy).1; have := HN.out; omega) hy).symm, HW.out⟩

theorem contains_strs {w : World} {F : Nat → Prop} {v : Value} {rs : List ByteArray} {g : Nat} {lb : Array Value} {p : ByteArray → Bool} (h : RdS w F v rs) (hF : ∀ b, F b → b < w.heap.size) (eg : Enters Try.prog g) (hp : PredS w g lb p) (hz : ∀ x ∈ rs, x.size ≤ maxLen) :
    Calls Try.prog 129 #[v, .func (.func g) #[] lb] w (Quiet w (.bool (rs.any p))) := by
  have hi := idxf_strs h hF eg hp hz
  have ha := firstBy_any (p := p) (xs := rs)
  obtain ⟨q, hq⟩ : ∃ q, q = firstBy p rs := ⟨_, rfl⟩
  rw [← hq] at hi ha
  have HI := hide hi
  have HA := hide ha
  obtain ⟨A, c, n, rfl⟩ : ∃ A c n, v = .slice A n c := by obtain ⟨A, n, c, e, _⟩ := id h; exact ⟨A, c, n, e⟩
  clear h hi ha hq hp
  go_enter Try.func129, Try.ntmps129
  go_wp2_with fail
  refine HI.out.mono ?_
  rintro e w1 ⟨rfl, b1⟩
  go_wp2_with fail
  go_ret
  exact ⟨ret_bool HA.out, b1⟩

theorem Try.enters_all_strs : Enters Try.prog 130 := enters_of Try.func130 (by kernel_rfl) rfl
theorem all_clo_strs {w w1 : World} {g : Nat} {lb : Array Value} {p : ByteArray → Bool} {B : Nat} (k1 : Blk w1 B 70 #[.func (.func g) #[] lb]) (eg : Enters Try.prog g) (b1 : Below w.heap.size w w1) (hp : PredS w g lb p) :
    PredS w1 130 #[.pointer (some ⟨B, 0, none⟩)] (fun x => !p x) := by
  intro W x hx hW
  have hcell : W.cell? ⟨B, 0, none⟩ = some (.func (.func g) #[] lb) := ((k1.below hW k1.lt).cell 0).trans rfl
  have hs := hp W x hx (b1.trans (hW.mono b1.size))
  have eg' : ∀ args w, (callFunc g args).run Try.prog w = .ok (.enter g args) w := eg
  obtain ⟨q, hq⟩ : ∃ q, q = p x := ⟨_, rfl⟩
  rw [← hq] at hs
  have HS := hide hs
  have HQ := hide hq
  show Calls Try.prog 130 #[.string x, .pointer (some ⟨B, 0, none⟩)] W _
  clear hs hq hp k1 hW
  go_enter Try.func130, Try.ntmps130
  go_wp2_with (go_at_fn g; refine HS.out.mono ?_; rintro e w2 ⟨rfl, b2⟩)
  go_ret
  exact ⟨ret_bool (show (!q) = !p x by rw [HQ.out]), b2⟩

theorem all_strs {w : World} {F : Nat → Prop} {v : Value} {rs : List ByteArray} {g : Nat} {lb : Array Value} {p : ByteArray → Bool} (h : RdS w F v rs) (hF : ∀ b, F b → b < w.heap.size) (eg : Enters Try.prog g) (hp : PredS w g lb p) (hz : ∀ x ∈ rs, x.size ≤ maxLen) :
    Calls Try.prog 75 #[v, .func (.func g) #[] lb] w (Quiet w (.bool (rs.all p))) := by
  obtain ⟨o, ho⟩ : ∃ o, o = Obj.cells #[.func (.func g) #[] lb] 70 := ⟨_, rfl⟩
  have b1 : Below w.heap.size w (w.alloc o) := (Below.refl _ w).alloc (Nat.le_refl _) _
  have h1 := h.below b1 hF
  have k1 : Blk (w.alloc o) w.heap.size 70 #[.func (.func g) #[] lb] := by rw [ho]; exact Blk.new w _ _
  have hc := contains_strs (p := fun x => !p x) (lb := #[.pointer (some ⟨w.heap.size, 0, none⟩)]) h1 (fun b e => Nat.lt_of_lt_of_le (hF b e) b1.size) Try.enters_all_strs (all_clo_strs k1 eg b1 hp) hz
  have ha := all_any p rs
  rw [firstBy_any] at ha
  obtain ⟨q, hq⟩ : ∃ q, q = rs.any (fun x => !p x) := ⟨_, rfl⟩
  rw [← hq] at hc ha
  have HI := hide hc
  have HA := hide ha
  have HB := hide b1
  rw [ho] at HI HB
  obtain ⟨A, c, n, rfl⟩ : ∃ A c n, v = .slice A n c := by obtain ⟨A, n, c, e, _⟩ := id h; exact ⟨A, c, n, e⟩
  clear h hc ha hq hp h1 k1 b1 ho
  have hmf : ∀ (fn : Fn) (first cap : Array Value) (w : World), (Instr.makeFunc fn first cap).run Try.prog w = .ok (.func fn first cap) w := fun _ _ _ _ => rfl
  go_enter Try.func75, Try.ntmps75
  go_wp2_with fail
  refine HI.out.mono ?_
  rintro e w1 ⟨rfl, b1⟩
  go_wp2_with fail
  go_ret
  exact ⟨ret_bool HA.out, HB.out.trans (b1.mono HB.out.size)⟩

set_option maxHeartbeats 2000000 in
theorem idxf_ints {w : World} {F : Nat → Prop} {v : Value} {rs : List Int} {g : Nat} {lb : Array Value} {p : Int → Bool} (h : RdI w F v rs) (hF : ∀ b, F b → b < w.heap.size) (eg : Enters Try.prog g) (hp : PredV w g lb (Value.int .i64) p) :
    Calls Try.prog 166 #[v, .func (.func g) #[] lb] w (Quiet w (.int .i64 (firstBy p rs))) := by
  obtain ⟨A, n, c, rfl, _⟩ := id h
  obtain ⟨en, hnc, hcm, hcell⟩ := h.at_
  unfold maxLen at hcm
  have HN := hide en
  have HC := hide hcell
  have HF := hide hF
  have HP := hide hp
  have eg' : ∀ args w, (callFunc g args).run Try.prog w = .ok (.enter g args) w := eg
  clear h en hcell hF hp
  go_enter Try.func166, Try.ntmps166
  go_wp2
  go_loopw [8] (fun i wr => ∃ k : Nat, k ≤ n ∧ i = .int .i64 k ∧ Below w.heap.size w wr ∧ ∀ (j : Nat) (y : Int), j < k → rs[j]? = some y → p y = false) (fun i _ => n - (intOf i).toNat)
  case atStart => exact ⟨0, Nat.zero_le _, rfl, Below.refl _ _, fun j y hj => absurd hj (by omega)⟩
  case round =>
    obtain ⟨k, hk, rfl, hw, hbefore⟩ := hrel
    have HB := hide hbefore
    have HW := hide hw
    clear hbefore
    by_cases hlt : k < n
    · obtain ⟨b, off, rfl, hb, hc⟩ := HC.out (by omega)
      obtain ⟨x, hx⟩ : ∃ x, rs[k]? = some x := ⟨_, List.getElem?_eq_getElem (by rw [← HN.out]; omega)⟩
      have hx0 := (hw.cell (p := ⟨b, off + k, none⟩) (HF.out b hb)).trans (hc k x hx)
      have hs := HP.out wr x hw
      have HX := hide hx
      cases hq : p x with
      | true =>
        rw [hq] at hs
        have HS := hide hs
        have HQ := hide hq
        clear hs hc hx hw hq
        go_wp2_with (go_at_fn g; refine HS.out.mono ?_; rintro e w1 ⟨rfl, b1⟩)
        go_ret
        exact ⟨ret_int (firstBy_hit HX.out HQ.out HB.out).symm, HW.out.trans (b1.mono HW.out.size)⟩
      | false =>
        rw [hq] at hs
        have HS := hide hs
        have HQ := hide hq
        clear hs hc hx hw hq
        go_wp2_with (go_at_fn g; refine HS.out.mono ?_; rintro e w1 ⟨rfl, b1⟩)
        go_roundw
        case rel =>
          refine ⟨k + 1, by omega, by go_num, HW.out.trans (b1.mono HW.out.size), fun j y hj hy => ?_⟩
          by_cases hjk : j = k
          · subst hjk; rw [HX.out] at hy; injection hy with hy; rw [← hy]; exact HQ.out
          · exact HB.out j y (by omega) hy
        case measure => simp [intOf]; omega
    · clear hw
      go_wp2
      go_ret
      exact ⟨ret_int (firstBy_miss fun j y hy => HB.out j y (by have := (List.getElem?_eq_some_iff.1 hy).1; have := HN.out; omega) hy).symm, HW.out⟩

theorem contains_ints {w : World} {F : Nat → Prop} {v : Value} {rs : List Int} {g : Nat} {lb : Array Value} {p : Int → Bool} (h : RdI w F v rs) (hF : ∀ b, F b → b < w.heap.size) (eg : Enters Try.prog g) (hp : PredV w g lb (Value.int .i64) p) :
    Calls Try.prog 157 #[v, .func (.func g) #[] lb] w (Quiet w (.bool (rs.any p))) := by
  have hi := idxf_ints h hF eg hp
  have ha := firstBy_any (p := p) (xs := rs)
  obtain ⟨q, hq⟩ : ∃ q, q = firstBy p rs := ⟨_, rfl⟩
  rw [← hq] at hi ha
  have HI := hide hi
  have HA := hide ha
  obtain ⟨A, c, n, rfl⟩ : ∃ A c n, v = .slice A n c := by obtain ⟨A, n, c, e, _⟩ := id h; exact ⟨A, c, n, e⟩
  clear h hi ha hq hp
  go_enter Try.func157, Try.ntmps157
  go_wp2_with fail
  refine HI.out.mono ?_
  rintro e w1 ⟨rfl, b1⟩
  go_wp2_with fail
  go_ret
  exact ⟨ret_bool HA.out, b1⟩

theorem Try.enters_all_ints : Enters Try.prog 158 := enters_of Try.func158 (by kernel_rfl) rfl
theorem all_clo_ints {w w1 : World} {g : Nat} {lb : Array Value} {p : Int → Bool} {B : Nat} (k1 : Blk w1 B 65 #[.func (.func g) #[] lb]) (eg : Enters Try.prog g) (b1 : Below w.heap.size w w1) (hp : PredV w g lb (Value.int .i64) p) :
    PredV w1 158 #[.pointer (some ⟨B, 0, none⟩)] (Value.int .i64) (fun x => !p x) := by
  intro W x hW
  have hcell : W.cell? ⟨B, 0, none⟩ = some (.func (.func g) #[] lb) := ((k1.below hW k1.lt).cell 0).trans rfl
  have hs := hp W x (b1.trans (hW.mono b1.size))
  have eg' : ∀ args w, (callFunc g args).run Try.prog w = .ok (.enter g args) w := eg
  obtain ⟨q, hq⟩ : ∃ q, q = p x := ⟨_, rfl⟩
  rw [← hq] at hs
  have HS := hide hs
  have HQ := hide hq
  show Calls Try.prog 158 #[.int .i64 x, .pointer (some ⟨B, 0, none⟩)] W _
  clear hs hq hp k1 hW
  go_enter Try.func158, Try.ntmps158
  go_wp2_with (go_at_fn g; refine HS.out.mono ?_; rintro e w2 ⟨rfl, b2⟩)
  go_ret
  exact ⟨ret_bool (show (!q) = !p x by rw [HQ.out]), b2⟩

theorem all_ints {w : World} {F : Nat → Prop} {v : Value} {rs : List Int} {g : Nat} {lb : Array Value} {p : Int → Bool} (h : RdI w F v rs) (hF : ∀ b, F b → b < w.heap.size) (eg : Enters Try.prog g) (hp : PredV w g lb (Value.int .i64) p) :
    Calls Try.prog 134 #[v, .func (.func g) #[] lb] w (Quiet w (.bool (rs.all p))) := by
  obtain ⟨o, ho⟩ : ∃ o, o = Obj.cells #[.func (.func g) #[] lb] 65 := ⟨_, rfl⟩
  have b1 : Below w.heap.size w (w.alloc o) := (Below.refl _ w).alloc (Nat.le_refl _) _
  have h1 := h.below b1 hF
  have k1 : Blk (w.alloc o) w.heap.size 65 #[.func (.func g) #[] lb] := by rw [ho]; exact Blk.new w _ _
  have hc := contains_ints (p := fun x => !p x) (lb := #[.pointer (some ⟨w.heap.size, 0, none⟩)]) h1 (fun b e => Nat.lt_of_lt_of_le (hF b e) b1.size) Try.enters_all_ints (all_clo_ints k1 eg b1 hp)
  have ha := all_any p rs
  rw [firstBy_any] at ha
  obtain ⟨q, hq⟩ : ∃ q, q = rs.any (fun x => !p x) := ⟨_, rfl⟩
  rw [← hq] at hc ha
  have HI := hide hc
  have HA := hide ha
  have HB := hide b1
  rw [ho] at HI HB
  obtain ⟨A, c, n, rfl⟩ : ∃ A c n, v = .slice A n c := by obtain ⟨A, n, c, e, _⟩ := id h; exact ⟨A, c, n, e⟩
  clear h hc ha hq hp h1 k1 b1 ho
  have hmf : ∀ (fn : Fn) (first cap : Array Value) (w : World), (Instr.makeFunc fn first cap).run Try.prog w = .ok (.func fn first cap) w := fun _ _ _ _ => rfl
  go_enter Try.func134, Try.ntmps134
  go_wp2_with fail
  refine HI.out.mono ?_
  rintro e w1 ⟨rfl, b1⟩
  go_wp2_with fail
  go_ret
  exact ⟨ret_bool HA.out, HB.out.trans (b1.mono HB.out.size)⟩

theorem contains_rules {w : World} {F : Nat → Prop} {v : Value} {rs : List (Int × List Int)} {g : Nat} {lb : Array Value} {p : (Int × List Int) → Bool} (h : RdR w F v rs) (hF : ∀ b, F b → b < w.heap.size) (eg : Enters Try.prog g) (hp : PredR w F g lb p) :
    Calls Try.prog 127 #[v, .func (.func g) #[] lb] w (Quiet w (.bool (rs.any p))) := by
  have hi := index_rules h hF eg hp
  have ha := firstBy_any (p := p) (xs := rs)
  obtain ⟨q, hq⟩ : ∃ q, q = firstBy p rs := ⟨_, rfl⟩
  rw [← hq] at hi ha
  have HI := hide hi
  have HA := hide ha
  obtain ⟨A, c, n, rfl⟩ : ∃ A c n, v = .slice A n c := by obtain ⟨A, c, e, _⟩ := id h; exact ⟨A, c, _, e⟩
  clear h hi ha hq hp
  go_enter Try.func127, Try.ntmps127
  go_wp2_with fail
  refine HI.out.mono ?_
  rintro e w1 ⟨rfl, b1⟩
  go_wp2_with fail
  go_ret
  exact ⟨ret_bool HA.out, b1⟩

theorem Try.enters_all_rules : Enters Try.prog 128 := enters_of Try.func128 (by kernel_rfl) rfl
theorem all_clo_rules {w w1 : World} {F : Nat → Prop} {g : Nat} {lb : Array Value} {p : Int × List Int → Bool} {B : Nat} (k1 : Blk w1 B 67 #[.func (.func g) #[] lb]) (eg : Enters Try.prog g) (b1 : Below w.heap.size w w1) (hp : PredR w F g lb p) (hF : ∀ b, F b → b < w.heap.size) :
    PredR w1 F 128 #[.pointer (some ⟨B, 0, none⟩)] (fun x => !p x) := by
  intro W v r hW hr
  have hbw := b1.trans (hW.mono b1.size)
  have hB : B < W.heap.size := Nat.lt_of_lt_of_le k1.lt hW.size
  have b2 : Below W.heap.size W (W.alloc (.cells #[.int .i64 r.1, v] 30)) := (Below.refl _ W).alloc (Nat.le_refl _) _
  have hcell : W.cell? ⟨B, 0, none⟩ = some (.func (.func g) #[] lb) := ((k1.below hW k1.lt).cell 0).trans rfl
  have hcell' := fun o => cell_a hcell o
  have hs := hp (W.alloc (.cells #[.int .i64 r.1, v] 30)) v r (hbw.trans (b2.mono hbw.size)) (hr.below b2 (fun b e => Nat.lt_of_lt_of_le (hF b e) hbw.size))
  have eg' : ∀ args w, (callFunc g args).run Try.prog w = .ok (.enter g args) w := eg
  obtain ⟨A, n, c, rfl, _⟩ := id hr
  obtain ⟨q, hq⟩ : ∃ q, q = p r := ⟨_, rfl⟩
  rw [← hq] at hs
  have HS := hide hs
  have HQ := hide hq
  have HB := hide b2
  show Calls Try.prog 128 #[.agg #[.int .i64 r.1, .slice A n c], .pointer (some ⟨B, 0, none⟩)] W _
  clear hs hq hp k1 hW b2 hr
  go_enter Try.func128, Try.ntmps128
  go_wp2_with (go_at_fn g; refine HS.out.mono ?_; rintro e w2 ⟨rfl, b2⟩)
  go_ret
  exact ⟨ret_bool (show (!q) = !p r by rw [HQ.out]), HB.out.trans (b2.mono HB.out.size)⟩

theorem all_rules {w : World} {F : Nat → Prop} {v : Value} {rs : List (Int × List Int)} {g : Nat} {lb : Array Value} {p : (Int × List Int) → Bool} (h : RdR w F v rs) (hF : ∀ b, F b → b < w.heap.size) (eg : Enters Try.prog g) (hp : PredR w F g lb p) :
    Calls Try.prog 74 #[v, .func (.func g) #[] lb] w (Quiet w (.bool (rs.all p))) := by
  obtain ⟨o, ho⟩ : ∃ o, o = Obj.cells #[.func (.func g) #[] lb] 67 := ⟨_, rfl⟩
  have b1 : Below w.heap.size w (w.alloc o) := (Below.refl _ w).alloc (Nat.le_refl _) _
  have h1 := h.below b1 hF
  have k1 : Blk (w.alloc o) w.heap.size 67 #[.func (.func g) #[] lb] := by rw [ho]; exact Blk.new w _ _
  have hc := contains_rules (p := fun x => !p x) (lb := #[.pointer (some ⟨w.heap.size, 0, none⟩)]) h1 (fun b e => Nat.lt_of_lt_of_le (hF b e) b1.size) Try.enters_all_rules (all_clo_rules k1 eg b1 hp hF)
  have ha := all_any p rs
  rw [firstBy_any] at ha
  obtain ⟨q, hq⟩ : ∃ q, q = rs.any (fun x => !p x) := ⟨_, rfl⟩
  rw [← hq] at hc ha
  have HI := hide hc
  have HA := hide ha
  have HB := hide b1
  rw [ho] at HI HB
  obtain ⟨A, c, n, rfl⟩ : ∃ A c n, v = .slice A n c := by obtain ⟨A, c, e, _⟩ := id h; exact ⟨A, c, _, e⟩
  clear h hc ha hq hp h1 k1 b1 ho
  have hmf : ∀ (fn : Fn) (first cap : Array Value) (w : World), (Instr.makeFunc fn first cap).run Try.prog w = .ok (.func fn first cap) w := fun _ _ _ _ => rfl
  go_enter Try.func74, Try.ntmps74
  go_wp2_with fail
  refine HI.out.mono ?_
  rintro e w1 ⟨rfl, b1⟩
  go_wp2_with fail
  go_ret
  exact ⟨ret_bool HA.out, HB.out.trans (b1.mono HB.out.size)⟩

end Go.Proofs.Ytejjaabkbkkjlaa
