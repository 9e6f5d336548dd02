/- The least end: the statement's closed example, walked. -/
import Derived.Test.YtalbfonkhpeajaaGreatHFinR1
import Derived.Test.YtalbfonkhpeajaaGreatHAuto15
import Derived.Test.YtalbfonkhpeajaaGreatHAutoPlain
import Derived.Test.YtalbfonkhpeajaaGreatHG7
import Derived.Test.YtalbfonkhpeajaaGreatHRegion
namespace Go.Proofs.YtalbfonkhpeajaaGreat
set_option linter.unusedVariables false
set_option linter.unusedSimpArgs false
open Go.RowKit
attribute [local irreducible] wpStill wpOne wpPh
theorem RestO.known {w w':World} {T:Nat} {S:Pl→List StpF} {f:Pl} {e:Ending} {v:Wd} (h:RestO w T S f e w') (hS:OkS T S) (hv:LeastF T S f (some v)): ∃A n c,e= .returned (.tuple #[.slice A n c,.bool true])∧RdI w' (fun b=>b<w'.heap.size) (.slice A n c) v∧Below w.heap.size w w':=by
 obtain⟨o,A,n,c,rfl,hr,hb,hl⟩:=h
 obtain rfl:=hl.unique hS hv
 exact⟨A,n,c,rfl,hr,hb⟩
set_option maxRecDepth 100000 in
set_option maxHeartbeats 4000000 in
theorem law22_awake (w:World):Calls Tryz.prog 5 #[] w (Quiet w (.bool true)):=by
 obtain⟨g,hb⟩:=aw13_box w
 have co:=fin_Of g.gram 3
 obtain⟨q0,q1,q2,q3⟩:=g.cells
 clear g
 have Xco:=hide co;have Xhb:=hide hb;clear co hb
 go_enter Tryz.func5,Tryz.ntmps5
 go_wp2_with fail
 refine Xco.out.mono ?_
 rintro e w2 hp
 obtain⟨b2,ev,D,hai,hor⟩:=hp
 obtain⟨rfl,rfl⟩:ev=0∧D=stD aw13L aw13T:=hai.unique (.inr (.inr ⟨aw13_check,aw13L,aw13T,aw13_auto,rfl,rfl⟩))
 rcases hor with⟨h,-⟩|⟨-,E,S,rfl,hws,hE⟩
 ·exact absurd rfl h
 obtain rfl:=aw16_words hws
 have hb2:=Xhb.out.trans (b2.mono Xhb.out.size)
 obtain⟨w3,hw3⟩: ∃q,q=w2.alloc (.cells #[.int .i64 0,.int .i64 1,.int .i64 1] 3):=⟨_,rfl⟩
 have b3:Below w2.heap.size w2 w3:=by rw [hw3];exact(Below.refl _ _).alloc (Nat.le_refl _) _
 have k3:Blk w3 w2.heap.size 3 #[.int .i64 0,.int .i64 1,.int .i64 1]:=by rw [hw3];exact Blk.new _ _ _
 have hs:RdI w3 (fun b=>b=w2.heap.size) (.slice (some ⟨w2.heap.size,0,none⟩) 3 3) (NatL [0,1,1]):=Rd.of_blk (us:=[Value.int .i64 0,Value.int .i64 1,Value.int .i64 1]) k3 rfl rfl (by decide)
 have cr:=(fin_Rest_of (hE.below b3) hai hws hs (fun b hb=>by rw [hb];exact k3.lt) (fun i q hq=>by
  have hlen:(stD aw13L aw13T).length=5:=by decide
  rw [hlen]
  have:=List.mem_of_getElem? hq
  simp at this
  omega) (by decide)).mono (R':=fun e w'=> ∃A n c,e= .returned (.tuple #[.slice A n c,.bool true])∧RdI w' (fun b=>b<w'.heap.size) (.slice A n c) [2]∧Below w3.heap.size w3 w') (fun e w' h=>by
  rcases h with⟨h,-⟩|⟨-,m,q,hm,hq,h⟩
  ·exact absurd h (by decide+kernel)
  ·obtain rfl:m=2:=by simp at hm;omega
   obtain rfl:q=1:=by simp at hq;omega
   exact RestO.known h (aw22_words hws) (aw22_least hws))
 have hb3:=hb2.trans (b3.mono hb2.size)
 rw [hw3]at cr
 clear Xco Xhb b2 q0 q1 q2 q3 hai hws hE hb2 b3 k3 hs
 have Xcr:=hide cr;have Xhb3:=hide hb3;clear cr hb3
 go_wp2_with fail
 refine Xcr.out.mono ?_
 rintro e w4 ⟨A,n,c,rfl,hr,b4⟩
 rw [←hw3]at b4
 have hb4:=Xhb3.out.trans (b4.mono Xhb3.out.size)
 obtain⟨hn,hnc,hcm,hcell⟩:=RdI.at_ hr
 obtain rfl:n=1:=hn
 unfold maxLen at hcm
 obtain⟨b,off,rfl,-,hc⟩:=hcell (by omega)
 have q0:w4.cell? ⟨b,off,none⟩=some (.int .i64 2):=hc 0 2 rfl
 clear hcell hc hr Xcr Xhb3 hw3 b4
 have Xhb4:=hide hb4;clear hb4
 go_wp2_with fail
 go_ret
 exact⟨rfl,Xhb4.out⟩
end Go.Proofs.YtalbfonkhpeajaaGreat
namespace Go.Proofs.YtalbfonkhpeajaaGreat
set_option linter.unusedVariables false
set_option linter.unusedSimpArgs false
open Go.RowKit
attribute [local irreducible] wpStill wpOne wpPh
set_option maxRecDepth 100000 in
set_option maxHeartbeats 2000000 in
theorem ref_rule2 {w:World} {F:Nat→Prop} {vt vn vr:Value} {G:GramD} (h:IsGram w F vt vn vr G) (st i:Int):
  Calls Tryz.prog 58 #[GV vt vn vr st,.int .i64 i] w (RuleP w F (ruleOf G st i)):=by
 have hF:=h.lt
 have hsm:=h.small
 obtain⟨A1,c1,A2,c2,A3,c3,rfl,rfl,rfl,l1,l2,l3,m1,m2,m3⟩:=h.slices
 obtain⟨-,-,-,hcell⟩:=ERule.at_ h.rules
 obtain⟨n,en⟩: ∃n,n=G.rules.length:=⟨_,rfl⟩
 have f1:(i<0∨(n:Int)<i)→ruleOf G st i=((0,[]),false):=fun e=>by unfold ruleOf;rw [←en,if_pos e]
 have f2:i=(n:Int)→ruleOf G st i=((0,[st]),true):=fun e=>by unfold ruleOf;rw [←en,if_neg (by omega),if_pos e]
 have f3: ∀(k:Nat) (l:Int) (x:List Int),i=(k:Int)→k<n→G.rules[k]? =some (l,x)→ruleOf G st i=((l,x),true):=fun k l x e e' hx=>by
  unfold ruleOf;rw [←en,if_neg (by omega),if_neg (by omega),show i.toNat=k by omega,hx];rfl
 rw [←en]at hsm hcell l3⊢
 obtain⟨s1,s2,s3⟩:=hsm
 have HN:=hide en
 have HC:=hide hcell
 have HF:=hide hF
 have F1:=hide f1
 have F2:=hide f2
 have F3:=hide f3
 clear en hcell hF h f1 f2 f3
 by_cases h0:i<0
 ·go_enter Tryz.func58,Tryz.ntmps58
  go_wp2_with fail
  refine bodyPost_ret (v:= .tuple #[.agg #[.int .i64 0,.slice none 0 0],.bool false]) (by simp [results,Tryz.results58,go_sem]) rfl ?_
  exact RuleP.mk rfl (F1.out (.inl h0)) (Rd.nil _ _ _) (((Below.refl _ w).alloc (Nat.le_refl _) _).alloc (by simp) _)
 ·by_cases h1:(n:Int)<i
  ·go_enter Tryz.func58,Tryz.ntmps58
   go_wp2_with fail
   refine bodyPost_ret (v:= .tuple #[.agg #[.int .i64 0,.slice none 0 0],.bool false]) (by simp [results,Tryz.results58,go_sem]) rfl ?_
   exact RuleP.mk rfl (F1.out (.inr h1)) (Rd.nil _ _ _) (((Below.refl _ w).alloc (Nat.le_refl _) _).alloc (by simp) _)
  ·by_cases h2:i=(n:Int)
   ·subst h2
    have r1:Rd (((w.alloc (.cells #[.slice A1 G.terms.length c1,.slice A2 G.nons.length c2,.slice A3 n c3,.int .i64 st] 25)).alloc (.cells #[.int .i64 0,.slice (some ⟨w.heap.size+2,0,none⟩) 1 1] 42)).alloc (.cells #[.int .i64 st] 3)) (fun b=>b=w.heap.size+2) (.slice (some ⟨w.heap.size+2,0,none⟩) 1 1) 1 [.int .i64 st]:=by
     have:=Rd.one' (w:=((w.alloc (.cells #[.slice A1 G.terms.length c1,.slice A2 G.nons.length c2,.slice A3 n c3,.int .i64 st] 25)).alloc (.cells #[.int .i64 0,.slice (some ⟨w.heap.size+2,0,none⟩) 1 1] 42))) (e:=3) [.int .i64 st] 1 rfl
     simpa using this
    go_enter Tryz.func58,Tryz.ntmps58
    go_wp2_with fail
    refine bodyPost_ret (v:= .tuple #[.agg #[.int .i64 0,.slice (some ⟨w.heap.size+2,0,none⟩) 1 1],.bool true]) (by simp [results,Tryz.results58,go_sem]) rfl ?_
    exact RuleP.mk rfl (F2.out (by first|rfl|trivial)) (r1.mono (fun b hb=> .inr (by simp;omega))) ((((Below.refl _ w).alloc (Nat.le_refl _) _).alloc (by simp) _).alloc (by simp;omega) _)
   ·obtain⟨k,rfl⟩:=Int.eq_ofNat_of_zero_le (by omega:0≤i)
    have hlt:k<n:=by omega
    obtain⟨b,off,rfl,hb,hc⟩:=HC.out (by omega)
    obtain⟨l0,x,vx,hx,hx0,hx1,hxr⟩:=RdR.get (n:=n) HF.out hb (Below.refl _ w) hc (k:=k) (by rw [←HN.out];omega)
    obtain⟨A5,n5,c5,rfl,_⟩:=id hxr
    have hbw:=HF.out b hb
    have hx0':=fun o=>cell_a hx0 o
    have hx1':=fun o=>cell_a hx1 o
    have hfin:=F3.out k l0 x rfl hlt hx
    have HFIN:=hide hfin
    have HXR:=hide hxr
    have hki:((k:Int)==(n:Int))=false:=by simpa using(by omega: ¬(k:Int)=(n:Int))
    clear hc hx hxr hfin h2
    go_enter Tryz.func58,Tryz.ntmps58
    go_wp2_with fail
    refine bodyPost_ret (v:= .tuple #[.agg #[.int .i64 l0,.slice A5 n5 c5],.bool true]) (by simp [results,Tryz.results58,go_sem]) rfl ?_
    have B2:Below w.heap.size w ((w.alloc (.cells #[.slice A1 G.terms.length c1,.slice A2 G.nons.length c2,.slice (some ⟨b,off,none⟩) n c3,.int .i64 st] 25)).alloc (.cells #[.int .i64 l0,.slice A5 n5 c5] 42)):=((Below.refl _ w).alloc (Nat.le_refl _) _).alloc (by simp) _
    exact RuleP.mk rfl HFIN.out ((HXR.out.below B2 HF.out).mono (fun b hb=> .inl hb)) B2
end Go.Proofs.YtalbfonkhpeajaaGreat
namespace Go.Proofs.YtalbfonkhpeajaaGreat
set_option linter.unusedVariables false
attribute [local irreducible] wpStill
section
variable {P : Program} {ops : Array Oper} {md : Region.Mode} {S : World → Prop} {Q : Exit → Act → World → Prop}
def pickO (l:List Oper):List Nat→List Oper
 |[]=>[]
 |i::t=>match l[i]? with|some o=>o::pickO l t|none=>pickO l t
def setL:List Nat→Array Bool→Array Bool
 |[],listed=>listed
 |k::t,listed=>setL t (listed.setIfInBounds k true)
def rdLB (md:Region.Mode) (ops:Array Oper):List Nat→Array Bool→Bool
 |[],_=>true
 |k::t,listed=>(Region.ready md ops listed).contains k&&Region.free md ops listed k&&rdLB md ops t (listed.setIfInBounds k true)
def alLB (md:Region.Mode) (ops:Array Oper):List Nat→Array Bool→Bool
 |[],_=>true
 |k::t,listed=>decide (Region.ready md ops listed=[k])&&alLB md ops t (listed.setIfInBounds k true)
def late2B (ops:Array Oper) (rs ms:List Nat) (m:Nat):Bool:=
 Region.noSelect ops&&decide (m<ops.size)&&decide (rs.length+ms.length=m)&&rs.all (fun i=>decide (i<m))&&ms.all (fun i=>decide (i<m))&&sinkS .any ops 0 m&&depB .any ops m&&rdLB .any ops rs (Array.replicate ops.size false)&&alLB .any ops ms (setL rs (Array.replicate ops.size false))&&
  decide (Region.ready .any ops (setL ms (setL rs (Array.replicate ops.size false)))=[m])&&Region.seqB .any ops (ops.size - m) m (setL ms (setL rs (Array.replicate ops.size false)))
theorem wpHd_midL {m:Nat} {rest l0:List Oper} {l2:Array Bool} (hm:m≤l0.length): ∀(ms:List Nat) (listed:Array Bool) (a:Act) (w:World),ms.all (fun i=>decide (i<m))=true→setL ms listed=l2→alLB md l0.toArray ms listed=true→
  wpMid P l0.toArray Q S rest (pickO l0 ms) a w→wpHd P md l0.toArray Q S m (fun listed' a' w'=>listed'=l2∧wpList P l0.toArray Q rest a' w') ms.length listed a w
 |[],listed,a,w,_,he,_,h=>⟨he,h⟩
 |k::t,listed,a,w,hk,he,hB,h=>by
  simp only [List.all_cons,Bool.and_eq_true,decide_eq_true_eq]at hk
  simp only [alLB,Bool.and_eq_true,decide_eq_true_eq]at hB
  have h0:l0[k]? =some l0[k]:=List.getElem?_eq_getElem (by omega)
  have hp:pickO l0 (k::t)=l0[k]::pickO l0 t:=by
   show(match l0[k]? with|some o=>o::pickO l0 t|none=>pickO l0 t)=_
   rw [h0]
  rw [hp]at h
  refine⟨fun e=>(by rw [hB.1]at e;cases e),fun j hj=> ?_⟩
  rw [hB.1]at hj
  have:j=k:=by simpa using hj
  subst this
  refine⟨hk.1,wpOp_of_one (by simp) (fun a2 w2 h2=>⟨h2.1,?_⟩) h⟩
  exact wpHd_midL hm t _ a2 w2 hk.2 he hB.2 h2.2
theorem wpHd_heldL {m r:Nat} {l0:List Oper} {L:Array Bool→Act→World→Prop} {w:World} (hsel:Region.noSelect l0.toArray=true) (hQ: ∀c a a' w,Q (.panic c) a w→Q (.panic c) a' w) (hs:sinkS md l0.toArray 0 m=true) (hc:depB md l0.toArray m=true) (hm:m<l0.toArray.size)
  (hdone: ∀listed a w,L listed a w→ ∀j∈Region.ready md l0.toArray listed,m≤j) (hS:S w) {l2:Array Bool}:
  ∀(rs:List Nat) (listed:Array Bool) (a:Act),rs.all (fun i=>decide (i<m))=true→HeadInv md l0.toArray m listed→setL rs listed=l2→rdLB md l0.toArray rs listed=true→
   wpHeld P l0.toArray S (fun a'=>wpHd P md l0.toArray Q S m L r l2 a' w) (pickO l0 rs) a→wpHd P md l0.toArray Q S m L (rs.length+r) listed a w
 |[],listed,a,_,_,he,_,h=>by
  have he':listed=l2:=he
  subst he'
  rw [List.length_nil,Nat.zero_add]
  exact h
 |k::t,listed,a,hk,inv,he,hB,h=>by
  simp only [List.all_cons,Bool.and_eq_true,decide_eq_true_eq]at hk
  simp only [rdLB,Bool.and_eq_true]at hB
  have hkl:k<l0.length:=by have:m<l0.length:=(by simpa using hm);omega
  have h0:l0[k]? =some l0[k]:=List.getElem?_eq_getElem hkl
  have hp:pickO l0 (k::t)=l0[k]::pickO l0 t:=by
   show(match l0[k]? with|some o=>o::pickO l0 t|none=>pickO l0 t)=_
   rw [h0]
  rw [hp]at h
  obtain⟨⟨hr,hf⟩,hB'⟩:=hB
  obtain⟨v,hy,hK⟩:=h
  have h0':l0.toArray[k]? =some l0[k]:=by simp
  have hr':k∈Region.ready md l0.toArray listed:=by simpa using hr
  rw [List.length_cons,show t.length+1+r=(t.length+r)+1 by omega]
  refine wpHd_first h0' (Region.noSelect_spec hsel) (fun c a w h=>hQ c _ _ w h) hs hc hm hk.1 hdone _ listed a w inv (Region.free_spec h0' hf) hr' hy hS ?_
  exact wpHd_heldL hsel hQ hs hc hm hdone hS t _ _ hk.2 (inv.set hr' hk.1) he hB' hK
end
theorem region_late2 {P:Program} {id:Nat} {Q:Exit→Act→World→Prop} {a:Act} {w:World} {l:List Oper} (S:World→Prop) (rs ms:List Nat) (m:Nat) (hm:P.follows .mixedOrders=true) (hB:late2B l.toArray rs ms m=true) (hS:S w.drew)
  (h:wpHeld P l.toArray S (fun a'=>wpMid P l.toArray (NoPanic Q) S (l.drop m) (pickO l ms) a' w.drew) (pickO l rs) a):(Code.region id l.toArray true).wp P Q a w:=by
 refine wp_region_noPanic ?_
 simp only [late2B,Bool.and_eq_true,decide_eq_true_eq]at hB
 obtain⟨⟨⟨⟨⟨⟨⟨⟨⟨⟨hsel,hms⟩,hlen⟩,hr1⟩,hm1⟩,hsk⟩,hdp⟩,hrd⟩,hal⟩,hrl⟩,hsq⟩:=hB
 have hms':m<l.length:=by simpa using hms
 refine wp_region_any hm ?_
 have inv0:HeadInv .any l.toArray m (Array.replicate l.toArray.size false):=
  ⟨by simp,fun j oj _ hl=>(by rw [getD_replicate_false]at hl;cases hl),fun t _ ht=>getD_in (by simpa using ht) (getD_replicate_false _ _)⟩
 have hL: ∀(listed:Array Bool) (a:Act) (w:World),(listed=setL ms (setL rs (Array.replicate l.toArray.size false))∧wpList P l.toArray (NoPanic Q) (l.drop m) a w)→wpAny P .any l.toArray (NoPanic Q) (l.drop m).length listed a w:=fun listed a w h=>by
  obtain⟨rfl,h⟩:=h
  refine wpAny_of_seq (l.drop m) m _ a w (fun j=>by rw [List.getElem?_drop];simp) ?_ h
  rw [show(l.drop m).length=l.toArray.size - m by simp]
  exact hsq
 have H:=wpHd_heldL (md:= .any) (P:=P) (Q:=NoPanic Q) (S:=S) (w:=w.drew) (m:=m) (r:=ms.length) (L:=fun listed a w=>listed=setL ms (setL rs (Array.replicate l.toArray.size false))∧wpList P l.toArray (NoPanic Q) (l.drop m) a w) hsel (fun c a a' w h=>h) hsk hdp hms
  (fun listed a w hl j hj=>by rw [hl.1,hrl]at hj;have:j=m:=(by simpa using hj);omega) hS rs (Array.replicate l.toArray.size false) a hr1 inv0 rfl hrd (by
   have mono: ∀(l':List Oper) (a:Act) (K K':Act→Prop),(∀a,K a→K' a)→wpHeld P l.toArray S K l' a→wpHeld P l.toArray S K' l' a:=by
    intro l'
    induction l' with
    |nil=>intro a K K' hk h;exact hk a h
    |cons o t ih=>intro a K K' hk h;obtain⟨v,h1,h2⟩:=h;exact⟨v,h1,ih _ K K' hk h2⟩
   refine mono _ _ _ _ (fun a' h'=> ?_) h
   exact wpHd_midL (md:= .any) (l2:=setL ms (setL rs (Array.replicate l.toArray.size false))) (by omega) ms (setL rs (Array.replicate l.toArray.size false)) a' w.drew hm1 rfl hal h')
 have:=wpAny_of_hd hL _ _ _ _ H
 rw [hlen,show m+(l.drop m).length=l.toArray.size by simp;omega]at this
 exact this
end Go.Proofs.YtalbfonkhpeajaaGreat
