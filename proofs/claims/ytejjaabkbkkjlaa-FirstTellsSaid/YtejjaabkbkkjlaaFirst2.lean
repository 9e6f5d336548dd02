/- first.Sets.line. -/
import Derived.Test.YtejjaabkbkkjlaaFirst1
import Derived.Test.YtejjaabkbkkjlaaFirstPlain2
namespace Go.Proofs.Ytejjaabkbkkjlaa
set_option linter.unusedVariables false
open Go.RowKit
attribute [local irreducible] wpStill wpOne wpPh

/-- a set joined with another one of the same room -/
theorem set_or' {w : World} {b m b2 : Nat} {f g : Nat → Bool} {S S2 : Nat → Prop} (h : IsSet w b S m f) (h2 : IsSet w b2 S2 m g) :
    Calls Try.prog 147 #[PtrV b, PtrV b2] w (OrPost w b S m (fun t => f t || g t) (moreB m f (fun t => f t || g t))) := by
  have e1 : orSet (min m m) f g = fun t => f t || g t := by
    funext t
    unfold orSet
    rw [Nat.min_self]
    cases ht : decide (t < m) with
    | true => simp
    | false => have := h2.high t (by simpa using ht); simp [this]
  have e2 : orAns (min m m) f g = moreB m f (fun t => f t || g t) := by
    rw [Nat.min_self]
    refine bool_of ?_
    unfold orAns
    rw [moreB_iff, List.any_eq_true]
    constructor
    · rintro ⟨t, ht, hh⟩
      simp only [Bool.and_eq_true, Bool.not_eq_true'] at hh
      exact ⟨t, List.mem_range.1 ht, by simp [hh.1], hh.2⟩
    · rintro ⟨t, ht, h1, h2⟩
      rw [h2] at h1
      exact ⟨t, List.mem_range.2 ht, by simpa [h2] using h1⟩
  have := set_or h h2
  rwa [e1, e2] at this

/-- what a line's walk needs of memory: R w f: the set that is joined into holds f -/
structure LineRel (R : World → (Nat → Bool) → Prop) (s T p pe g c n m b : Nat) (Se S : Nat → Prop) (e : Nat → Bool) (bs : Nat → Nat) (Gf : Nat → (Nat → Bool) → Nat → Bool) : Prop where
  to : ∀ {w f}, R w f → IsSet w b S m f
  cells : ∀ {w f}, R w f → w.cell? ⟨s, 0, none⟩ = some (.int .i64 T) ∧ w.cell? ⟨s, 1, none⟩ = some (.int .i64 p) ∧ w.cell? ⟨s, 2, none⟩ = some (PtrV pe) ∧ w.cell? ⟨s, 3, none⟩ = some (.slice (some ⟨g, 0, none⟩) n c)
  em : ∀ {w f}, R w f → IsSet w pe Se n e
  el : ∀ {w f}, R w f → ∀ i, i < n → w.cell? ⟨g, i, none⟩ = some (PtrV (bs i)) ∧ ∃ Si, IsSet w (bs i) Si m (Gf i f)
  up : ∀ {w w' f f'}, R w f → IsSet w' b S m f' → Touch S w w' → R w' f'
  np : n = p + 1
  cap : n ≤ c ∧ c ≤ 9223372036854775807 ∧ n ≤ 4096
theorem LineRel.below {R : World → (Nat → Bool) → Prop} {s T p pe g c n m b : Nat} {Se S : Nat → Prop} {e : Nat → Bool} {bs : Nat → Nat} {Gf : Nat → (Nat → Bool) → Nat → Bool} (h : LineRel R s T p pe g c n m b Se S e bs Gf) {w w' : World} {f : Nat → Bool} (hr : R w f) (hb : Below w.heap.size w w') : R w' f :=
  h.up hr ((h.to hr).keep hb) ((Touch.of_size hb (fun _ => False)).mono fun _ _ h => h.elim)

def FLinePost (R : World → (Nat → Bool) → Prop) (S : Nat → Prop) (w : World) (m : Nat) (f0 f : Nat → Bool) (all : Bool) (e : Ending) (w' : World) : Prop := e = .returned (.tuple #[.bool (moreB m f0 f), .bool all]) ∧ R w' f ∧ Touch S w w'

set_option maxRecDepth 100000 in
set_option maxHeartbeats 4000000 in
theorem first_line {R : World → (Nat → Bool) → Prop} {s T p pe g c n m b : Nat} {Se S : Nat → Prop} {e : Nat → Bool} {bs : Nat → Nat} {Gf : Nat → (Nat → Bool) → Nat → Bool} (L : LineRel R s T p pe g c n m b Se S e bs Gf) {bg : Nat → Nat → Bool} {f0 : Nat → Bool} (hal : ∀ i, i < n → (∀ f, Gf i f = bg i) ∨ ((∀ f, Gf i f = f) ∧ bg i = f0))
    {w : World} (hw : R w f0) {F : Nat → Prop} {v : Value} {l : List Int} (hl : RdI w F v l) (hF : ∀ k, F k → ¬ S k) :
    Calls Try.prog 117 #[PtrV s, PtrV b, v] w (FLinePost R S w m f0 (joinL f0 (hasI n e) (famI n bg) l) (l.all (hasI n e))) := by
  obtain ⟨A, q, d, rfl, -⟩ := id hl
  obtain ⟨hn, hnd, hdm, hcell⟩ := RdI.at_ hl
  unfold maxLen at hdm
  have hm := (L.to hw).high
  have hgh : ∀ i, i < n → ∀ t, m ≤ t → bg i t = false := fun i hi t ht => by
    obtain ⟨-, Si, hs⟩ := L.el hw i hi
    rcases hal i hi with h | ⟨h1, h2⟩
    · rw [← h f0]; exact hs.high t ht
    · rw [h2]; exact hm t ht
  have hjoin : ∀ (f : Nat → Bool) (i : Nat), i < n → (∀ t, f0 t = true → f t = true) → orSet (min m m) f (Gf i f) = fun t => f t || bg i t := fun f i hi hf => by
    funext t
    unfold orSet
    rw [Nat.min_self]
    rcases hal i hi with h | ⟨h1, h2⟩
    · rw [h f]
      cases ht : decide (t < m) with
      | true => simp
      | false => have := hgh i hi t (by simpa using ht); simp [this]
    · rw [h1 f, h2]
      cases h3 : f t with
      | true => simp
      | false =>
        have : f0 t = false := by cases h4 : f0 t with
          | false => rfl
          | true => rw [hf t h4] at h3; cases h3
        simp [this]
  obtain ⟨np, nc, cm, nm⟩ := And.intro L.np L.cap
  have hw0 := hw
  have Xhn := hide hn
  have Xhl := hide hl
  have XhF := hide hF
  have Xhm := hide hm
  have Xhgh := hide hgh
  have Xhjoin := hide hjoin
  have Xhal := hide hal
  have XL := hide L
  have Xhw0 := hide hw0
  have Xnp := hide np
  clear hn hl hF hm hgh hjoin hal L hw0 np
  clear hw
  go_enter Try.func117, Try.ntmps117
  go_wp2_with fail
  go_loopw [8, 13] (fun mo i wr => ∃ (k : Nat) (f : Nat → Bool), k ≤ q ∧ i = .int .i64 k ∧ f = joinL f0 (hasI n e) (famI n bg) (l.take k) ∧ mo = .bool (moreB m f0 f) ∧ (l.take k).all (hasI n e) = true ∧ R wr f ∧ Touch S w wr) (fun _ i _ => q - (intOf i).toNat)
  case atStart => exact ⟨0, f0, Nat.zero_le _, rfl, by funext t; simp [joinL, lineB], by rw [moreB_self], rfl, Xhw0.out, Touch.refl _ _⟩
  case round =>
    obtain ⟨k, f, hk, rfl, hf, rfl, hall, hR, ht⟩ := hrel
    have hf0 : ∀ t, f0 t = true → f t = true := fun t h => by rw [hf]; exact joinL_le t h
    by_cases hlt : k < q
    · have hlt' : (k : Int) < (q : Int) := by omega
      obtain ⟨bb, off, rfl, hFb, hc1⟩ := hcell (by omega)
      obtain ⟨x, hx⟩ : ∃ x, l[k]? = some x := ⟨_, List.getElem?_eq_getElem (by rw [← Xhn.out]; exact hlt)⟩
      have hcx := ht.cell (hc1 k x hx) (XhF.out _ hFb)
      obtain ⟨s0, s1, s2, s3⟩ := XL.out.cells hR
      obtain ⟨mo, hmo⟩ : ∃ mo, mo = moreB m f0 f := ⟨_, rfl⟩
      rw [← hmo]
      clear hcell hc1
      have Xhx := hide hx
      have Xhf := hide hf
      have Xhall := hide hall
      have XhR := hide hR
      have Xht := hide ht
      have Xhf0 := hide hf0
      have Xhmo := hide hmo
      clear hx hf hall hR ht hf0 hmo
      go_wp2_with fail
      refine (sizes_symbol T p x wr).mono ?_
      rintro ee w2 ⟨rfl, b2⟩
      have hR2 := XL.out.below XhR.out b2
      have ht2 : Touch S w w2 := Xht.out.trans' ((Touch.of_size b2 (fun _ => False)).mono fun _ _ h => h.elim)
      clear s0 s1 s2 s3 hcx XhR Xht
      by_cases hin : 0 ≤ x ∧ x ≤ (p : Int)
      case neg =>
        have hsy : (decide (0 ≤ x) && decide (x ≤ (p : Int))) = false := by
          rw [Bool.and_eq_false_iff, decide_eq_false_iff_not, decide_eq_false_iff_not]; omega
        have hno : x < 0 ∨ (n : Int) ≤ x := by have := Xnp.out; omega
        have he : hasI n e x = false := hasI_no hno
        have hff : joinL f0 (hasI n e) (famI n bg) l = f := by
          rw [Xhf.out]
          funext t
          unfold joinL
          rw [lineB_stop Xhx.out he, take_get Xhx.out, lineB_snoc Xhall.out, famI_no hno]
          simp
        have fin : FLinePost R S w m f0 (joinL f0 (hasI n e) (famI n bg) l) (l.all (hasI n e)) (.returned (.tuple #[.bool mo, .bool false])) w2 := ⟨by rw [hff, all_stop Xhx.out he, Xhmo.out], by rw [hff]; exact hR2, ht2⟩
        rw [hsy]
        clear b2 hff hno hin
        have Xfin := hide fin
        have XhR2 := hide hR2
        have Xht2 := hide ht2
        have Xhe := hide he
        clear fin hR2 ht2 he
        go_wp2_with fail
        go_ret2
        exact Xfin.out
      case pos =>
        have hsy : (decide (0 ≤ x) && decide (x ≤ (p : Int))) = true := by
          rw [decide_eq_true hin.1, decide_eq_true hin.2]; rfl
        rw [hsy]
        obtain ⟨i, rfl⟩ := Int.eq_ofNat_of_zero_le hin.1
        have hi : i < n := by have := Xnp.out; omega
        have hi2 : (i : Int) < (n : Int) := by omega
        obtain ⟨s0, s1, s2, s3⟩ := XL.out.cells hR2
        obtain ⟨hc, Si, hsi⟩ := XL.out.el hR2 i hi
        have hto := XL.out.to hR2
        have hor := set_or hto hsi
        rw [Xhjoin.out f i hi Xhf0.out] at hor
        have hoa : orAns (min m m) f (Gf i f) = moreB m f (fun t => f t || bg i t) := by
          rw [← Xhjoin.out f i hi Xhf0.out, Nat.min_self]
          refine bool_of ?_
          unfold orAns
          rw [moreB_iff, List.any_eq_true]
          constructor
          · rintro ⟨t, ht, h⟩
            simp only [Bool.and_eq_true, Bool.not_eq_true'] at h
            have ht' := List.mem_range.1 ht
            exact ⟨t, ht', by unfold orSet; simp [h.1, ht'], h.2⟩
          · rintro ⟨t, ht, h1, h2⟩
            unfold orSet at h1
            rw [h2] at h1
            simp only [Bool.false_or, Bool.and_eq_true] at h1
            exact ⟨t, List.mem_range.2 ht, by simp [h1.1, h2]⟩
        rw [hoa] at hor
        have hf2 : (fun t => f t || bg i t) = joinL f0 (hasI n e) (famI n bg) (l.take (k + 1)) := by
          funext t
          rw [Xhf.out]
          unfold joinL
          rw [take_get Xhx.out, lineB_snoc Xhall.out, famI_nat hi, Bool.or_assoc]
        have hmm : (moreB m f (fun t => f t || bg i t) || mo) = moreB m f0 (fun t => f t || bg i t) := by
          rw [Xhmo.out]
          exact moreB_trans Xhf0.out (fun t h => by simp [h])
        obtain ⟨f2, hf2'⟩ : ∃ f2, f2 = fun t => f t || bg i t := ⟨_, rfl⟩
        rw [← hf2'] at hor hf2 hmm
        clear hoa hf2'
        generalize hmo2 : moreB m f f2 = mo2 at *
        clear b2 hmo2
        have XhR2 := hide hR2
        have Xht2 := hide ht2
        have Xhto := hide hto
        have Xhsi := hide hsi
        have Xhor := hide hor
        have Xhf2 := hide hf2
        have Xhmm := hide hmm
        clear hR2 ht2 hto hsi hor hf2 hmm
        go_wp2_with fail
        refine Xhor.out.mono ?_
        rintro ee w3 ⟨rfl, hs3, t3⟩
        have hR3 := XL.out.up XhR2.out hs3 t3
        have ht3 := Xht2.out.trans' t3
        clear s0 s1 s2 s3 hc Xht2 XhR2 Xhto Xhsi hs3 t3 Xhor
        obtain ⟨s0, s1, s2, s3⟩ := XL.out.cells hR3
        have hem := XL.out.em hR3
        have hlast : ∀ b, hasI n e (i : Int) = false → b = moreB m f0 f2 → FLinePost R S w m f0 (joinL f0 (hasI n e) (famI n bg) l) (l.all (hasI n e)) (.returned (.tuple #[.bool b, .bool false])) w3 := fun b he hb => by
          have hff : joinL f0 (hasI n e) (famI n bg) l = f2 := by
            rw [Xhf2.out]
            funext t
            unfold joinL
            rw [lineB_stop Xhx.out he]
          exact ⟨by rw [hff, all_stop Xhx.out he, hb], by rw [hff]; exact hR3, ht3⟩
        have hnext : hasI n e (i : Int) = true → (l.take (k + 1)).all (hasI n e) = true := fun he => all_take Xhx.out Xhall.out he
        cases mo2 with
        | true =>
          have hmm2 : true = moreB m f0 f2 := Xhmm.out
          have Xhlast := hide hlast
          have Xhnext := hide hnext
          have XhR3 := hide hR3
          have Xht3 := hide ht3
          have Xhem := hide hem
          have Xhmm2 := hide hmm2
          clear hlast hnext hR3 ht3 hem hmm2
          go_wp2_with fail
          refine (set_has Xhem.out (i : Int)).mono ?_
          rintro ee w4 ⟨rfl, rfl⟩
          cases he : hasI n e (i : Int) with
          | false =>
            have fin := Xhlast.out true he Xhmm2.out
            have Xfin := hide fin
            clear fin
            go_wp2_with fail
            go_ret2
            exact Xfin.out
          | true =>
            have hall2 := Xhnext.out he
            have Xhall2 := hide hall2
            clear hall2
            go_wp2_with fail
            go_roundw
            case rel => exact ⟨k + 1, f2, by omega, by go_num, Xhf2.out, by rw [← Xhmm2.out], Xhall2.out, XhR3.out, Xht3.out⟩
            case measure => simp [intOf]; omega
        | false =>
          have hmm2 : mo = moreB m f0 f2 := Xhmm.out
          have Xhlast := hide hlast
          have Xhnext := hide hnext
          have XhR3 := hide hR3
          have Xht3 := hide ht3
          have Xhem := hide hem
          have Xhmm2 := hide hmm2
          clear hlast hnext hR3 ht3 hem hmm2
          go_wp2_with fail
          refine (set_has Xhem.out (i : Int)).mono ?_
          rintro ee w4 ⟨rfl, rfl⟩
          cases he : hasI n e (i : Int) with
          | false =>
            have fin := Xhlast.out mo he Xhmm2.out
            have Xfin := hide fin
            clear fin
            go_wp2_with fail
            go_ret2
            exact Xfin.out
          | true =>
            have hall2 := Xhnext.out he
            have Xhall2 := hide hall2
            clear hall2
            go_wp2_with fail
            go_roundw
            case rel => exact ⟨k + 1, f2, by omega, by go_num, Xhf2.out, by rw [← Xhmm2.out], Xhall2.out, XhR3.out, Xht3.out⟩
            case measure => simp [intOf]; omega
    · have hkq : k = q := by omega
      have hlt' : ¬ (k : Int) < (q : Int) := by omega
      have hk2 : l.take k = l := List.take_of_length_le (by have := Xhn.out; omega)
      rw [hk2] at hf hall
      subst hf
      have fin : FLinePost R S w m f0 (joinL f0 (hasI n e) (famI n bg) l) (l.all (hasI n e)) (.returned (.tuple #[.bool (moreB m f0 (joinL f0 (hasI n e) (famI n bg) l)), .bool true])) wr := ⟨by rw [hall], hR, ht⟩
      generalize moreB m f0 (joinL f0 (hasI n e) (famI n bg) l) = mo at *
      have Xfin := hide fin
      have Xhall := hide hall
      have XhR := hide hR
      have Xht := hide ht
      have Xhf0 := hide hf0
      have Xhk2 := hide hk2
      clear fin hall hR ht hf0 hk2
      clear hkq
      go_wp2_with fail
      go_ret2
      exact Xfin.out
end Go.Proofs.Ytejjaabkbkkjlaa
