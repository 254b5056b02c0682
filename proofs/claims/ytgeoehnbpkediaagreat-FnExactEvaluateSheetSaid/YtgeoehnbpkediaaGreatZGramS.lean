/- Turned matrices and the form of a basis: the reference's functions. -/
import Derived.Test.YtgeoehnbpkediaaGreatZAddM
import Derived.Test.YtgeoehnbpkediaaGreatZDetR
set_option maxHeartbeats 8000000
set_option maxRecDepth 100000
namespace Go.Proofs.YtgeoehnbpkediaaGreat
open Go.RowKit
open Lib (hid)
open Go.Value renaming int->Yv
open Go.IntKind renaming i64->Yi
variable {C i r:Nat} {S:Nat->Prop} {cs rs:List Nat} {m:List Int} {v:Value} {w:World}
theorem Znu {m:Mat} (h:VM w S v m) (hb:bdM m<=1048576):
  Calls Tryz.prog 92 #[v] w fun e w'=> ∃ r,e= .returned (.tuple #[r, .bool (Zg m)])/\OM w' (New w w') r (trB m)/\Grow w w':=by
 have hV:=h
 obtain ⟨a,n,c,rfl,h,ir,ic⟩:=h
 obtain ⟨w1,hw1⟩: ∃ z,z=(w.alloc (.cells #[Yv Yi m.rows,Yv Yi m.cols, .slice a n c] 28)).alloc (.cells #[Yv Yi 0,Yv Yi 0, .slice none 0 0] 28):=⟨_,rfl⟩
 have hG1:Grow w w1:=by rw[hw1];exact ((Grow.refl w).alloc _ _).alloc _ _
 have bM:Blk w1 w.heap.size #[Yv Yi m.rows,Yv Yi m.cols, .slice a n c] 28:=by rw[hw1];exact (Blk.new _ _ _).alloc _
 have bZ:Blk w1 (w.heap.size+1) #[Yv Yi 0,Yv Yi 0, .slice none 0 0] 28:=by rw[hw1];exact Blk.newAt _ _ _ (by simp)
 have Hw1:=hid hw1
 clear hw1 h ir ic
 go_enter Tryz.func92,Tryz.ntmps92
 go_wp2_with fail
 rw[←Hw1.out]
 refine (ZJ (hV.grow hG1) (by omega)).mono ?_
 rintro e w2 ⟨rfl,hG2⟩
 have hG:=hG1.trans hG2
 have hs2:=hG.size
 have bM2:=bM.grow hG2
 have bZ2:=bZ.grow hG2
 have h1:w.heap.size<=w.heap.size+1:=by omega
 obtain ⟨⟨m0,m1,m2⟩, -⟩:=bM2.three
 obtain ⟨⟨z0,z1,z2⟩,f0,f1,f2⟩:=bZ2.three
 have hltM:=bM2.lt
 have hltZ:=bZ2.lt
 cases hB:Zg m with
 |false=>
  have He:=hid (show trB m={rows:=0,cols:=0,cells:=[]} by unfold trB;rw[hB];rfl)
  have HB:=hid hB
  clear hB
  go_wp2
  exact Zf Za rfl rfl rfl (((bZ2.set 0 _).set 1 _).set 2 _) ⟨_,by rw[HB.out];rfl,by rw[He.out];exact ⟨none,0,0,rfl,Own.nilw,(fun _ hx=>by cases hx),(fun g hg=>by simp at hg),by unfold I64;simp,by unfold I64;simp⟩,((hG.setCell h1 _).setCell h1 _).setCell h1 _⟩
 |true=>
  have He:=hid (show trB m=Zbm m by unfold trB;rw[hB];rfl)
  have HB:=hid hB
  clear hB
  go_wp2_with fail
  refine (Zlb (hV.grow hG) HB.out).mono ?_
  rintro e w4 ⟨rv,rfl,⟨pa,pn,pc,rfl,oP,rP,fP,j1,j2⟩,hG4⟩
  have hs3:=hG4.size
  have bZ4:=bZ2.grow hG4
  clear m0 m1 m2 hltM z0 z1 z2 f0 f1 f2
  obtain ⟨⟨z0,z1,z2⟩,f0,f1,f2⟩:=bZ4.three
  have hltZ4:=bZ4.lt
  have hGf:=hG.trans hG4
  generalize Zbm m=P at *
  have hKs:Keep (fun q=>q≠w.heap.size+1) w4 (((w4.setCell ⟨w.heap.size+1,0,none⟩ (Yv Yi P.rows)).setCell ⟨w.heap.size+1,1,none⟩ (Yv Yi P.cols)).setCell ⟨w.heap.size+1,2,none⟩ (.slice pa pn pc)):=
   (((Keep.refl _ w4).setCell (fun _ e=>e rfl) _).setCell (fun _ e=>e rfl) _).setCell (fun _ e=>e rfl) _
  have hOf:=oP.keep hKs fun g hg _ e=>by have:=(fP g hg).1;omega
  have hGz:=((hGf.setCell (p:=⟨w.heap.size+1,0,none⟩) h1 (Yv Yi P.rows)).setCell (p:=⟨w.heap.size+1,1,none⟩) h1 (Yv Yi P.cols)).setCell (p:=⟨w.heap.size+1,2,none⟩) h1 (.slice pa pn pc)
  go_wp2
  exact Zf Za rfl rfl rfl (((bZ4.set 0 _).set 1 _).set 2 _) ⟨_,by rw[HB.out];rfl,by rw[He.out];exact ⟨pa,pn,pc,rfl,hOf,rP,fun g hg=>⟨by have:=(fP g hg).1;omega,hOf.lt hg⟩,j1,j2⟩,hGz⟩
def GrPost (z:Nat) (T M P:Mat) (ok:Bool):Nat->Value->World->Prop
 |2,v,w=>OM w (fun g=>z<=g) v T
 |3,v,w=>OM w (fun g=>z<=g) v M
 |4,v,w=> ∃ r,v= .tuple #[r, .bool ok]/\OM w (fun g=>z<=g) r P
 |5,v,w=> ∃ r,v= .tuple #[r, .bool ok]/\OM w (fun g=>z<=g) r P
 |6,v,w=>OM w (fun g=>z<=g) v P
 |7,v,_=>v= .bool ok
 |8,v,w=> ∃ g,v= .pointer (some ⟨g,0,none⟩)/\z<=g/\Blk w g #[Yv Yi 0,Yv Yi 0, .slice none 0 0] 28
 |_,_,_=>True
theorem GrPost.stays {z:Nat} {T M P:Mat} {ok:Bool}: ∀ i v w w',Grow w w'->GrPost z T M P ok i v w->GrPost z T M P ok i v w':=fun i v w w' hG h=>by
 unfold GrPost at *
 split at h
 ·exact h.grow hG
 ·exact h.grow hG
 ·obtain ⟨r,h1,h2⟩:=h;exact ⟨r,h1,h2.grow hG⟩
 ·obtain ⟨r,h1,h2⟩:=h;exact ⟨r,h1,h2.grow hG⟩
 ·exact h.grow hG
 ·exact h
 ·obtain ⟨g,h1,h2,h3⟩:=h;exact ⟨g,h1,h2,h3.grow hG⟩
 ·trivial
theorem Zit {m:Mat} (h:VM w S v m) (hb:bdM m<=1048576):
  Calls Tryz.prog 97 #[v] w fun e w'=> ∃ r,e= .returned (.tuple #[r, .bool (ZaK m)])/\OM w' (New w w') r (ZaE m)/\Grow w w':=by
 have hV:=h
 obtain ⟨a,n,c,rfl,h,ir,ic⟩:=h
 obtain ⟨w1,hw1⟩: ∃ z,z=(w.alloc (.cells #[Yv Yi m.rows,Yv Yi m.cols, .slice a n c] 28)).alloc (.cells #[Yv Yi 0,Yv Yi 0, .slice none 0 0] 28):=⟨_,rfl⟩
 have hG1:Grow w w1:=by rw[hw1];exact ((Grow.refl w).alloc _ _).alloc _ _
 have bM:Blk w1 w.heap.size #[Yv Yi m.rows,Yv Yi m.cols, .slice a n c] 28:=by rw[hw1];exact (Blk.new _ _ _).alloc _
 have bZ:Blk w1 (w.heap.size+1) #[Yv Yi 0,Yv Yi 0, .slice none 0 0] 28:=by rw[hw1];exact Blk.newAt _ _ _ (by simp)
 have Hw1:=hid hw1
 clear hw1 h ir ic
 go_enter Tryz.func97,Tryz.ntmps97
 go_wp2_with fail
 rw[←Hw1.out]
 refine (ZJ (hV.grow hG1) (by omega)).mono ?_
 rintro e w2 ⟨rfl,hG2⟩
 have hG:=hG1.trans hG2
 have hs2:=hG.size
 have bM2:=bM.grow hG2
 have bZ2:=bZ.grow hG2
 have h1:w.heap.size<=w.heap.size+1:=by omega
 obtain ⟨⟨m0,m1,m2⟩, -⟩:=bM2.three
 obtain ⟨⟨z0,z1,z2⟩,f0,f1,f2⟩:=bZ2.three
 have hltM:=bM2.lt
 have hltZ:=bZ2.lt
 cases hB:Zg m with
 |false=>
  have Hr:=hid (show ZaK m=false/\ZaE m={rows:=0,cols:=0,cells:=[]} by unfold ZaK ZaE;rw[hB];exact ⟨rfl,rfl⟩)
  clear hB
  go_wp2
  exact Zf Za rfl rfl rfl (((bZ2.set 0 _).set 1 _).set 2 _) ⟨_,by rw[Hr.out.1];rfl,by rw[Hr.out.2];exact ⟨none,0,0,rfl,Own.nilw,(fun _ hx=>by cases hx),(fun g hg=>by simp at hg),by unfold I64;simp,by unfold I64;simp⟩,((hG.setCell h1 _).setCell h1 _).setCell h1 _⟩
 |true=>
  have hF:Zaj m (Zbm m)=true:=by
   unfold Zaj
   rw[hB,ZiO hB]
   simp[Zbm]
  have Hr:=hid (show ZaK m=Zg (Zbt m (Zbm m))/\ZaE m=okM (Zbt m (Zbm m)) by
   unfold ZaK ZaE Zad Zax
   rw[hB,hF]
   exact ⟨rfl,rfl⟩)
  have HF:=hid hF
  have HB:=hid hB
  have vM:=hV.grow hG
  have hMb:=Zg3 hF
  clear hB hF z0 z1 z2 f0 f1 f2 hltZ
  obtain ⟨T,hT⟩: ∃ T,T=Zbm m:=⟨_,rfl⟩
  obtain ⟨M,hM⟩: ∃ M,M=Zbt m (Zbm m):=⟨_,rfl⟩
  obtain ⟨P,hP⟩: ∃ P,P=okM M:=⟨_,rfl⟩
  obtain ⟨ok,hok⟩: ∃ x,x=Zg M:=⟨_,rfl⟩
  rw[←hM, ←hok, ←hP] at Hr
  rw[←hM] at hMb
  have HT:=hid hT
  have HM:=hid (show Zbt m T=M by rw[hT,hM])
  have HP:=hid hP
  have Hok:=hid hok
  have HF2:=hid (show Zaj m T=true by rw[hT];exact HF.out)
  have vA:VM w2 S (.agg #[Yv Yi m.rows,Yv Yi m.cols, .slice a n c]) m:=vM
  clear hT hM hP hok HF vM
  go_wp2
  refine Zck (S:=Grow w2) (T:=fun _=>True) [0,1] [2,3,4,8] [5,6,7] [([],some 9),([10],none)] Zn (by kernel_rfl) (fun _ _ _ _ _ h=>h) (Grow.refl _).drew ?_
  show wpQuiet _ _ _ _ [_,_] _
  repeat (first |go_big_quiet_skip|(go_big_quiet_want;first |(apply Ze Za;rfl;rfl;exact (fun w' hG=>bM2.grow hG);go_big_quiet_on;simp only[putP])|(go_big_quiet_op;first |go_big_quiet_on|(refine ⟨_,(fun _ _=>rfl), ?_⟩;go_big_quiet_on))))
  refine wpQuiet_nil ?_
  refine ⟨by kernel_rfl,GrPost w2.heap.size T M P ok,fun _ _=>none,GrPost.stays,(fun _ _ _ _ _ h=>by cases h),(fun _ _ _=>rfl), ?_, ?_, ?_⟩
  ·intro i hi o ho a' wq hGw hSw hdep hfr K hK
   have t11:a'.tmps.getD 11 undef= .agg #[Yv Yi m.rows,Yv Yi m.cols, .slice a n c]:=hfr 11 (by decide)
   have t12:a'.tmps.getD 12 undef= .agg #[Yv Yi m.rows,Yv Yi m.cols, .slice a n c]:=hfr 12 (by decide)
   have hsq:=hSw.size
   simp only[List.mem_cons,List.not_mem_nil,or_false] at hi
   rcases hi with rfl|rfl|rfl|rfl
   ·obtain rfl:=Option.some.inj (show some _=some _ from ho)
    refine Zgv (x:= .tmp 12) rfl Tryz.func121 rfl rfl t12 ?_
    refine (Zlb (vA.grow hSw) HB.out).mono ?_
    rintro e w3 ⟨r,rfl,hO,hG3⟩
    exact ⟨r,rfl,hK r w3 hG3 (hSw.trans hG3) (by rw[←HT.out] at hO;exact hO.weak fun b _ hb=>Nat.le_trans hsq hb.1) (fun _ h=>by cases h)⟩
   ·obtain rfl:=Option.some.inj (show some _=some _ from ho)
    have d1:OM wq (fun g=>w2.heap.size<=g) (a'.tmps.getD 13 undef) T:=hdep 2 (by decide) ⟨⟨2, .data⟩,by simp,rfl,rfl⟩ 13 rfl
    refine ZeQ (x:= .tmp 11) (y:= .tmp 13) rfl Tryz.func120 rfl rfl t11 rfl ?_
    refine (Zk1 (vA.grow hSw) (d1.rd (S:=fun _=>True) fun _ _=>trivial) HF2.out).mono ?_
    rintro e w3 ⟨r,rfl,hO,hG3⟩
    exact ⟨r,rfl,hK r w3 hG3 (hSw.trans hG3) (by rw[HM.out] at hO;exact hO.weak fun b _ hb=>Nat.le_trans hsq hb.1) (fun _ h=>by cases h)⟩
   ·obtain rfl:=Option.some.inj (show some _=some _ from ho)
    have d1:OM wq (fun g=>w2.heap.size<=g) (a'.tmps.getD 14 undef) M:=hdep 3 (by decide) ⟨⟨3, .data⟩,by simp,rfl,rfl⟩ 14 rfl
    refine Zgv (x:= .tmp 14) rfl Tryz.func119 rfl rfl rfl ?_
    refine (Zhh d1 (by omega)).mono ?_
    rintro e w3 ⟨r,rfl,hO,hG3⟩
    exact ⟨_,rfl,hK _ w3 hG3 (hSw.trans hG3) ⟨r,by rw[Hok.out],by rw[←HP.out] at hO;exact hO⟩ (fun _ h=>by cases h)⟩
   ·obtain rfl:=Option.some.inj (show some _=some _ from ho)
    refine ZeW (z:= .agg #[Yv Yi 0,Yv Yi 0, .slice none 0 0]) rfl (by rfl) ?_
    exact hK _ _ ((Grow.refl _).alloc _ _) (hSw.alloc _ _) ⟨wq.heap.size,rfl,hsq,Blk.new _ _ _⟩ (fun _ h=>by cases h)
  ·intro i hi o ho a' wq hGw hSw hdep hfr
   simp only[List.mem_cons,List.not_mem_nil,or_false] at hi
   rcases hi with rfl|rfl|rfl
   ·obtain rfl:=Option.some.inj (show some _=some _ from ho)
    have d3: ∃ r,a'.tmps.getD 15 undef= .tuple #[r, .bool ok]/\OM wq (fun g=>w2.heap.size<=g) r P:=hdep 4 (by decide) ⟨⟨4, .data⟩,by simp,rfl,rfl⟩ 15 rfl
    exact ⟨a'.tmps.getD 15 undef,fun _ _=>rfl,d3⟩
   ·obtain rfl:=Option.some.inj (show some _=some _ from ho)
    obtain ⟨r,e4,hO⟩: ∃ r,a'.tmps.getD 10 undef= .tuple #[r, .bool ok]/\OM wq (fun g=>w2.heap.size<=g) r P:=hdep 5 (by decide) ⟨⟨5, .data⟩,by simp,rfl,rfl⟩ 10 rfl
    exact ⟨r,fun w' _=>Zcb (x:= .tmp 10) rfl e4 rfl w',hO⟩
   ·obtain rfl:=Option.some.inj (show some _=some _ from ho)
    obtain ⟨r,e4,hO⟩: ∃ r,a'.tmps.getD 10 undef= .tuple #[r, .bool ok]/\OM wq (fun g=>w2.heap.size<=g) r P:=hdep 5 (by decide) ⟨⟨5, .data⟩,by simp,rfl,rfl⟩ 10 rfl
    exact ⟨.bool ok,fun w' _=>Zcb (x:= .tmp 10) rfl e4 rfl w',rfl⟩
  ·intro vs wq hGw hSw hP _
   apply Zet
   ·show _=([some 13,some 14,some 15,some 4,some 10,some 16,some 17]:List (Option Tmp))
    kernel_rfl
   simp only[Zft,List.cons_append,List.nil_append,List.map_cons,List.map_nil,List.zip_cons_cons,List.zip_nil_right,Act.put,List.setIfInBounds_toArray,List.set_cons_succ,List.set_cons_zero]
   refine ⟨?_⟩
   have p6:OM wq (fun g=>w2.heap.size<=g) (vs 6) P:=hP 6 (by decide)
   have p7:vs 7= .bool ok:=hP 7 (by decide)
   obtain ⟨g,p8,hzg,hBg⟩: ∃ g,vs 8= .pointer (some ⟨g,0,none⟩)/\w2.heap.size<=g/\Blk wq g #[Yv Yi 0,Yv Yi 0, .slice none 0 0] 28:=hP 8 (by decide)
   obtain ⟨ap,np,cp,e5,op,xp,fp,ip,jp⟩:=p6
   have hne:=op.ne_blk hBg (by decide)
   rw[e5,p7,p8]
   clear e5 p7 p8 hP
   show wpQuiet _ _ _ _ [] _
   apply wpQuiet_nil
   apply Zk rfl
   intro K hK
   obtain ⟨⟨z0,z1,z2⟩,g0,g1,g2⟩:=hBg.three
   go_wp2_with fail
   have hK3:Keep (fun q=>q≠g) wq (((wq.setCell ⟨g,0,none⟩ (Yv Yi P.rows)).setCell ⟨g,1,none⟩ (Yv Yi P.cols)).setCell ⟨g,2,none⟩ (.slice ap np cp)):=
    (((Keep.refl _ wq).setCell (fun _ e=>e rfl) _).setCell (fun _ e=>e rfl) _).setCell (fun _ e=>e rfl) _
   have hB3:Blk (((wq.setCell ⟨g,0,none⟩ (Yv Yi P.rows)).setCell ⟨g,1,none⟩ (Yv Yi P.cols)).setCell ⟨g,2,none⟩ (.slice ap np cp)) g #[Yv Yi P.rows,Yv Yi P.cols, .slice ap np cp] 28:=((hBg.set 0 _).set 1 _).set 2 _
   have hG3:=hSw.keep hK3 fun q hq=>by omega
   have op3:=op.keep hK3 fun q hq _ e=>hne (e▸hq)
   refine hK _ _ hG3 ?_
   clear hK K
   generalize hw3:(((wq.setCell ⟨g,0,none⟩ (Yv Yi P.rows)).setCell ⟨g,1,none⟩ (Yv Yi P.cols)).setCell ⟨g,2,none⟩ (.slice ap np cp))=w3 at *
   clear hw3 hK3 z0 z1 z2 g0 g1 g2 hBg op m0 m1 m2 hltM
   show wpQuiet _ _ _ _ [_] _
   try (conv=>arg 6;simp only[putP])
   repeat (first |go_big_quiet_skip|(go_big_quiet_want;first |(apply Ze Za;rfl;rfl;exact (fun w' hG=>bM2.grow hG);go_big_quiet_on;simp only[putP])|(go_big_quiet_op;first |go_big_quiet_on|(refine ⟨_,(fun _ _=>rfl), ?_⟩;go_big_quiet_on))))
   refine wpQuiet_nil ?_
   refine Zm ?_
   have bZ3:=bZ2.grow hG3
   have hGf:=hG.trans hG3
   have hzl:=bZ2.lt
   obtain ⟨⟨z0,z1,z2⟩,f0,f1,f2⟩:=bZ3.three
   obtain ⟨⟨y0,y1,y2⟩, -⟩:=hB3.three
   have hltg:=hB3.lt
   have hltZ:=bZ3.lt
   have hKs:Keep (fun q=>q≠w.heap.size+1) w3 (((w3.setCell ⟨w.heap.size+1,0,none⟩ (Yv Yi P.rows)).setCell ⟨w.heap.size+1,1,none⟩ (Yv Yi P.cols)).setCell ⟨w.heap.size+1,2,none⟩ (.slice ap np cp)):=
    (((Keep.refl _ w3).setCell (fun _ e=>e rfl) _).setCell (fun _ e=>e rfl) _).setCell (fun _ e=>e rfl) _
   have hOf:=op3.keep hKs fun g hg _ e=>by have:=fp g hg;omega
   have hGz:=((hGf.setCell (p:=⟨w.heap.size+1,0,none⟩) h1 (Yv Yi P.rows)).setCell (p:=⟨w.heap.size+1,1,none⟩) h1 (Yv Yi P.cols)).setCell (p:=⟨w.heap.size+1,2,none⟩) h1 (.slice ap np cp)
   go_wp2
   exact Zf Za rfl rfl rfl (((bZ3.set 0 _).set 1 _).set 2 _) ⟨_,by rw[Hr.out.1];rfl,by rw[Hr.out.2];exact ⟨ap,np,cp,rfl,hOf,xp,fun g hg=>⟨by have:=fp g hg;omega,hOf.lt hg⟩,ip,jp⟩,hGz⟩
def ZdQ (l:List Nat):List Int:=List.map (fun (x:Nat)=>(Nat.cast x:Int)) l
theorem Zlk {l:List Nat} {x:Nat} (h:l[i]? =some x):(ZdQ l)[i]? =some (x:Int):=by
 unfold ZdQ;rw[List.getElem?_map,h];rfl
def ZbN (m:List Int) (C:Nat) (cs:List Nat) (r j:Nat):List Int:=(cs.take j).map fun c=>cell m C r c
def ZaI (m:List Int) (C:Nat) (rs cs:List Nat) (i:Nat):List Int:=((rs.take i).map fun r=>cs.map fun c=>cell m C r c).flatten
theorem ZlJ {j c:Nat} (h:cs[j]? =some c):ZbN m C cs r (j+1)=ZbN m C cs r j++[cell m C r c]:=by
 unfold ZbN;rw[ZX h,List.map_append];rfl
theorem Zmd (m:List Int) (C r j:Nat) (cs:List Nat):(ZbN m C cs r j).length<=j:=by unfold ZbN;simp;omega
theorem ZlK {q:Nat} (h:rs[i]? =some r) (hq:cs.length=q):ZaI m C rs cs (i+1)=ZaI m C rs cs i++ZbN m C cs r q:=by
 unfold ZaI ZbN;rw[ZX h,List.map_append,List.flatten_append, ←hq,List.take_length];simp
theorem Zm9 (m:List Int) (C:Nat) (rs cs:List Nat): ∀ i,(ZaI m C rs cs i).length<=i*cs.length:=fun i=>by
 unfold ZaI
 rw[List.length_flatten,List.map_map]
 have: ∀ l:List Nat,(l.map (List.length∘fun r=>cs.map fun c=>cell m C r c)).sum=l.length*cs.length:=by
  intro l
  induction l with
  |nil=>simp
  |cons x l ih=>rw[List.map_cons,List.sum_cons,ih];simp[Nat.add_mul];omega
 rw[this]
 exact Nat.mul_le_mul_right _ (by simp;omega)
theorem Zms (hm:NumL m):NumL (ZaI m C rs cs i):=fun x hx=>by
 unfold ZaI at hx
 rw[List.mem_flatten] at hx
 obtain ⟨l,hl,hx⟩:=hx
 obtain ⟨r, -,rfl⟩:=List.mem_map.1 hl
 obtain ⟨c, -,rfl⟩:=List.mem_map.1 hx
 exact Zt hm C r c
theorem Zo1 {T U:Nat->Prop} (a ra ca:Option Addr) (n cp R C p q rc cc:Nat) (m:List Int) (rs cs:List Nat) (w:World) (h:RdI w S a n cp m) (hl:m.length=R*C) (hR:R<=24) (hC:C<=24) (hm:NumL m)
  (hr:RdI w T ra p rc (ZdQ rs)) (hc:RdI w U ca q cc (ZdQ cs)) (hp:rs.length=p) (hq:cs.length=q) (hp24:p<=24) (hq24:q<=24) (hrs: ∀ x∈rs,x<R) (hcs: ∀ x∈cs,x<C):
  Calls Tryz.prog 194 #[.agg #[Yv Yi R,Yv Yi C, .slice a n cp], .slice ra p rc, .slice ca q cc] w fun e w'=> ∃ r,e= .returned r/\OM w' (New w w') r {rows:=(p:Int),cols:=(q:Int),cells:=ZaI m C rs cs p}/\Grow w w':=by
 have hln:=h.len
 obtain ⟨w1,hw1⟩: ∃ z,z=((w.alloc (.cells #[Yv Yi R,Yv Yi C, .slice a n cp] 28)).alloc (.cells #[Yv Yi 0,Yv Yi 0, .slice none 0 0] 28)).alloc (.cells #[Yv Yi (p:Int),Yv Yi (q:Int), .slice none 0 0] 28):=⟨_,rfl⟩
 have hG1:Grow w w1:=by rw[hw1];exact (((Grow.refl w).alloc _ _).alloc _ _).alloc _ _
 have bM:Blk w1 w.heap.size #[Yv Yi R,Yv Yi C, .slice a n cp] 28:=by rw[hw1];exact ((Blk.new _ _ _).alloc _).alloc _
 have bZ:Blk w1 (w.heap.size+1) #[Yv Yi 0,Yv Yi 0, .slice none 0 0] 28:=by rw[hw1];exact (Blk.newAt _ _ _ (by simp)).alloc _
 have bO:Blk w1 (w.heap.size+1+1) #[Yv Yi (p:Int),Yv Yi (q:Int), .slice none 0 0] 28:=by rw[hw1];exact Blk.newAt _ _ _ (by simp)
 have hE:Own w1 3 1 none 0 0 []:=Own.nilw
 have rd1:RdI w1 (fun b=>b<w.heap.size) a n cp m:=(h.weak (T:=fun b=>b<w.heap.size) (fun b hb _=>hb)).grow hG1
 have rr1:RdI w1 (fun b=>b<w.heap.size) ra p rc (ZdQ rs):=(hr.weak (T:=fun b=>b<w.heap.size) (fun b hb _=>hb)).grow hG1
 have rc1:RdI w1 (fun b=>b<w.heap.size) ca q cc (ZdQ cs):=(hc.weak (T:=fun b=>b<w.heap.size) (fun b hb _=>hb)).grow hG1
 have HP:=hid hp
 have HQ:=hid hq
 have HRS:=hid hrs
 have HCS:=hid hcs
 have hAl: ∀ i,i<=p->(ZaI m C rs cs i).length<=576:=fun i hi=>by
  have:=Zm9 m C rs cs i
  rw[hq] at this
  have:=Nat.mul_le_mul hi (show q<=24 from hq24)
  have:p*24<=24*24:=Nat.mul_le_mul_right _ hp24
  omega
 have HAl:=hid hAl
 have HA0:=hid (show ZaI m C rs cs 0=[] from rfl)
 clear hp hq hrs hcs hAl h hr hc
 go_enter Tryz.func194,Tryz.ntmps194
 go_wp2_with fail
 rw[←hw1]
 clear hw1
 go_loopw [8] (fun iv wr=>Keep (fun q=>q<=w.heap.size+1) w1 wr/\ ∃ (i c2:Nat) (a2:Option Addr),i<=p/\iv=Yv Yi i/\Blk wr (w.heap.size+1+1) #[Yv Yi (p:Int),Yv Yi (q:Int), .slice a2 (ZaI m C rs cs i).length c2] 28/\Own wr 3 1 a2 (ZaI m C rs cs i).length c2 (ints (ZaI m C rs cs i))/\ ∀ g,blk a2=some g->w.heap.size+2<=g/\g≠w.heap.size+1+1) (fun i _=>p-(intOf i).toNat)
 case atStart=>exact ⟨Keep.refl _ _,0,0,none,Nat.zero_le _,rfl,bO,hE,fun g hg=>by simp at hg⟩
 case round=>
  clear bO hE
  obtain ⟨hK0,i,c2,a2,hi,rfl,bO,hO,hlo⟩:=hrel
  by_cases hlt:i<p
  ·obtain ⟨r,hri⟩: ∃ r,rs[i]? =some r:=⟨_,List.getElem?_eq_getElem (by rw[HP.out];exact hlt)⟩
   have hrR:=HRS.out r (List.mem_of_getElem? hri)
   have HAs:=hid (ZlK (m:=m) (C:=C) (cs:=cs) hri HQ.out)
   have HRi:=hid (Zlk hri)
   clear hri
   go_wp2
   obtain ⟨wo,rfl⟩: ∃ wo,wo=wr:=⟨_,rfl⟩
   go_loopw [9] (fun jv wr=>Keep (fun q=>q<=w.heap.size+1) w1 wr/\ ∃ (j c2:Nat) (a2:Option Addr),j<=q/\jv=Yv Yi j/\Blk wr (w.heap.size+1+1) #[Yv Yi (p:Int),Yv Yi (q:Int), .slice a2 (ZaI m C rs cs i++ZbN m C cs r j).length c2] 28/\Own wr 3 1 a2 (ZaI m C rs cs i++ZbN m C cs r j).length c2 (ints (ZaI m C rs cs i++ZbN m C cs r j))/\ ∀ g,blk a2=some g->w.heap.size+2<=g/\g≠w.heap.size+1+1) (fun j _=>q-(intOf j).toNat)
   case atStart=>exact ⟨hK0,0,c2,a2,Nat.zero_le _,rfl,by simpa [ZbN] using bO,by simpa [ZbN] using hO,hlo⟩
   case round=>
    clear hK0 bO hO hlo
    obtain ⟨hKi,j,c3,a3,hj,rfl,bO,hO,hlo⟩:=hrel
    by_cases hltj:j<q
    ·have bMr:=bM.keep hKi (by omega)
     have rrJ:=rr1.keep hKi (fun b _ hb=>by omega)
     have rcJ:=rc1.keep hKi (fun b _ hb=>by omega)
     have rdr:RdI wr (fun b=>b<w.heap.size) a n cp m:=rd1.keep hKi (fun b _ hb=>by omega)
     obtain ⟨c,hci⟩: ∃ c,cs[j]? =some c:=⟨_,List.getElem?_eq_getElem (by rw[HQ.out];exact hltj)⟩
     have hcC:=HCS.out c (List.mem_of_getElem? hci)
     have HX:=hid (show ZaI m C rs cs i++ZbN m C cs r (j+1)=(ZaI m C rs cs i++ZbN m C cs r j)++[cell m C r c] by rw[ZlJ hci,List.append_assoc])
     obtain ⟨xb,xo,xx,hxa,hxx, -,hxS,hxl,hxc⟩:=rrJ.at hlt
     obtain ⟨yb,yo,yy,hya,hyy, -,hyS,hyl,hyc⟩:=rcJ.at hltj
     rw[HRi.out] at hxx
     rw[Zlk hci] at hyy
     obtain rfl:=Option.some.inj hxx
     obtain rfl:=Option.some.inj hyy
     subst hxa
     subst hya
     have hle:(ZaI m C rs cs i++ZbN m C cs r j).length<=1000:=by
      have h1:=HAl.out i hi
      have h2:=Zmd m C r j cs
      rw[List.length_append];omega
     have hcl:=Zl (C:=C) hcC hrR
     have hrn:r*C+c<n:=by rw[←hln,hl];exact hcl
     clear hxx hyy hci rrJ rcJ
     obtain ⟨⟨m0,m1,m2⟩, -⟩:=bMr.three
     have hltM:=bMr.lt
     obtain ⟨⟨o0,o1,o2⟩,of0,of1,of2⟩:=bO.three
     have hltO:=bO.lt
     have nM:blk a3≠some w.heap.size:=fun e=>by have:=(hlo _ e).1;omega
     have nX:blk a3≠some xb:=fun e=>by have:=(hlo _ e).1;omega
     have nY:blk a3≠some yb:=fun e=>by have:=(hlo _ e).1;omega
     have nO:blk a3≠some (w.heap.size+1+1):=fun e=>(hlo _ e).2 rfl
     generalize ZaI m C rs cs i++ZbN m C cs r j=L at *
     generalize hLe:ZaI m C rs cs i++ZbN m C cs r (j+1)=L' at *
     have HLe:=hid hLe
     clear hLe
     go_wp2
     refine ZN (S:=(Keep (fun g=>blk a3≠some g) wr)) (last:=15) [([0,1,2,3,4,5,6,7,8,9,10],some 11),([],some 12),([],some 13),([14],some 15)] Zn (by kernel_rfl) (fun _ _ _ _ _ h=>h) (Keep.refl _ _).drew ?_
     show wpQuiet _ _ _ _ [_,_,_,_,_,_,_,_,_,_,_] _
     repeat (first |go_big_quiet_skip|(go_big_quiet_want;first |(apply Zc ZaN;rfl;rfl;exact (fun w' hG=>hG.cell nO o2);go_big_quiet_on;simp only[putP])|(apply Ze Za;rfl;rfl;exact (fun w' hG=>bMr.keep hG nM);go_big_quiet_on;simp only[putP])|(apply Zc ZT;rfl;rfl;exact (fun w' hG=>hG.cell nX hxc);go_big_quiet_on;simp only[putP])|(apply Zc ZT;rfl;rfl;exact (fun w' hG=>hG.cell nY hyc);go_big_quiet_on;simp only[putP])|(go_big_quiet_op;first |go_big_quiet_on|(refine ⟨_,(fun _ _=>rfl), ?_⟩;go_big_quiet_on))))
     refine wpQuiet_nil ?_
     refine Zx rfl (fun K hK=> ?_)
     go_wp2_with fail
     refine (ZO a n cp C r c (R:Int) m _ (rdr.grow (Grow.refl _).drew) hrn (by omega) (by omega) (by omega)).mono ?_
     rintro e w2 ⟨rfl,hG2⟩
     have hGa:=(Grow.refl wr).drew.trans hG2
     go_wp2_with fail
     refine hK _ _ ((fun _=>hGa.any)) ?_
     clear hK K
     show wpQuiet _ _ _ _ [] _
     try (conv=>arg 6;simp only[putP])
     refine wpQuiet_nil ?_
     refine Zx rfl (fun K hK=> ?_)
     go_wp2_with fail
     have hGb:=hGa.alloc #[Yv Yi (cell m C r c)] 3
     refine hK _ _ ((fun _=>hGb.any)) ?_
     clear hK K
     show wpQuiet _ _ _ _ [] _
     try (conv=>arg 6;simp only[putP])
     refine wpQuiet_nil ?_
     refine Zx rfl (fun K hK=> ?_)
     have hOb:=hO.grow hGb
     refine Zgp (.tmp 28) (.tmp 39) _ rfl T_ints rfl hOb rfl (Row.built (S:=fun _=>True) 1 (by unfold maxLen;omega) rfl trivial) (by simp[Value.oneCell']) (by omega) (by unfold maxLen;omega) ?_
     intro a4 c4 w4 hA4
     have hK4:Keep (fun g=>blk a3≠some g) wr w4:=hGb.any.trans hA4.keep
     refine hK _ _ ((fun _=>hK4)) ?_
     clear hK K
     simp only[putP]
     show wpQuiet _ _ _ _ [_] _
     try (conv=>arg 6;simp only[putP])
     repeat (first |go_big_quiet_skip|(go_big_quiet_want;first |(apply Zc ZaN;rfl;rfl;exact (fun w' hG=>hG.cell nO o2);go_big_quiet_on;simp only[putP])|(apply Ze Za;rfl;rfl;exact (fun w' hG=>bMr.keep hG nM);go_big_quiet_on;simp only[putP])|(apply Zc ZT;rfl;rfl;exact (fun w' hG=>hG.cell nX hxc);go_big_quiet_on;simp only[putP])|(apply Zc ZT;rfl;rfl;exact (fun w' hG=>hG.cell nY hyc);go_big_quiet_on;simp only[putP])|(go_big_quiet_op;first |go_big_quiet_on|(refine ⟨_,(fun _ _=>rfl), ?_⟩;go_big_quiet_on))))
     refine wpQuiet_nil ?_
     refine Zx rfl (fun K hK=> ?_)
     have bO4:=bO.keep hK4 nO
     have hlo4: ∀ g,blk a4=some g->w.heap.size+2<=g/\g≠w.heap.size+1+1:=fun g hg=>by
      rcases hA4.new with e|⟨g',e,hge⟩
      ·rw[e] at hg;exact hlo g hg
      ·rw[e] at hg
       obtain rfl:=Option.some.inj hg
       have:=hGa.size
       simp at hge
       omega
     have hO4:Own w4 3 1 a4 L'.length c4 (ints L'):=by
      have:=hA4.own
      rw[HX.out]
      simpa using this
     have HL:=hid (show L'.length=L.length+1 by rw[HX.out];simp)
     obtain ⟨⟨o0',o1',o2'⟩,of0',of1',of2'⟩:=bO4.three
     have hltO4:=bO4.lt
     have bO5:=bO4.set 2 (.slice a4 (L.length+1) c4)
     have hKs:Keep (fun g=>g≠w.heap.size+1+1) w4 (w4.setCell ⟨w.heap.size+1+1,2,none⟩ (.slice a4 (L.length+1) c4)):=(Keep.refl _ w4).setCell (fun _ e=>e rfl) _
     have hO5:=hO4.keep hKs fun g hg _=>(hlo4 g hg).2
     have hKf:Keep (fun q=>q<=w.heap.size+1) w1 (w4.setCell ⟨w.heap.size+1+1,2,none⟩ (.slice a4 (L.length+1) c4)):=
      (hKi.trans (hK4.mono fun g _ hg e=>by have:=(hlo g e).1;omega)).trans (hKs.mono fun g _ hg=>by omega)
     clear hA4 hO hOb o0 o1 o2 of0 of1 of2
     go_wp2_with fail
     refine hK _ _ ((fun h=>(h rfl).elim)) ?_
     clear hK K
     refine Z8 ?_
     go_wp2
     go_roundw
     case rel=>exact ⟨hKf,j+1,c4,a4,by omega,by go_num,by rw[HLe.out,HL.out];exact bO5,by rw[HLe.out];exact hO5,hlo4⟩
     case measure=>simp[intOf];omega
    ·obtain rfl:j=q:=by omega
     rw[←HAs.out] at bO hO
     go_wp2
     go_roundw
     case rel=>exact ⟨hKi,i+1,c3,a3,by omega,by go_num,bO,hO,hlo⟩
     case measure=>simp[intOf];omega
  ·obtain rfl:i=p:=by omega
   obtain ⟨⟨o0,o1,o2⟩,of0,of1,of2⟩:=bO.three
   have hltO:=bO.lt
   have bZr:=bZ.keep hK0 (by omega)
   obtain ⟨⟨z0,z1,z2⟩,zf0,zf1,zf2⟩:=bZr.three
   have hltZ:=bZr.lt
   have hLn:NumL (ZaI m C rs cs i):=Zms hm
   obtain ⟨L,hPA⟩: ∃ L,L=ZaI m C rs cs i:=⟨_,rfl⟩
   rw[←hPA] at bO hO hLn o2
   have HPA:=hid hPA.symm
   clear hPA
   have hK9:Keep (fun q=>q≠w.heap.size+1) wr (((wr.setCell ⟨w.heap.size+1,0,none⟩ (Yv Yi (i:Int))).setCell ⟨w.heap.size+1,1,none⟩ (Yv Yi (q:Int))).setCell ⟨w.heap.size+1,2,none⟩ (.slice a2 L.length c2)):=
    (((Keep.refl _ wr).setCell (fun _ e=>e rfl) _).setCell (fun _ e=>e rfl) _).setCell (fun _ e=>e rfl) _
   have hGz:Grow w (((wr.setCell ⟨w.heap.size+1,0,none⟩ (Yv Yi (i:Int))).setCell ⟨w.heap.size+1,1,none⟩ (Yv Yi (q:Int))).setCell ⟨w.heap.size+1,2,none⟩ (.slice a2 L.length c2)):=
    hG1.keep ((hK0.mono fun g _ hg=>by show g<=w.heap.size+1;exact Nat.le_succ_of_le (Nat.le_of_lt hg)).trans (hK9.mono fun g _ hg=>by have:g<w.heap.size:=hg;omega)) fun g hg=>hg
   have hrng: ∀ x∈L,I64 x:=ZC hLn
   have hOl: ∀ g,blk a2=some g->g<wr.heap.size:=fun g hg=>hO.lt hg
   go_wp2
   exact Zp Za rfl rfl rfl (((bZr.set 0 _).set 1 _).set 2 _) ⟨_,rfl,⟨a2,L.length,c2,rfl,by show Own _ _ _ _ _ _ (ints (ZaI m C rs cs i));rw[HPA.out];exact hO.keep hK9 (fun g hg _=>by have:=(hlo g hg).1;omega),by show ∀ x∈ZaI m C rs cs i,I64 x;rw[HPA.out];exact hrng,fun g hg=>⟨by have:=(hlo g hg).1;omega,by simpa using hOl g hg⟩,by show I64 (i:Int);unfold I64;omega,by show I64 (q:Int);unfold I64;omega⟩,hGz⟩
theorem Zme {N k:Nat} (hl:m.length=N*N) (hk:k<=N):ZaI m N (List.range k) (List.range k) k=ZbG m N k k:=by
 unfold ZaI ZbG
 rw[List.take_of_length_le (by simp)]
 congr 1
 refine List.map_congr_left fun i hi=> ?_
 have hi:=List.mem_range.1 hi
 apply List.ext_getElem
 ·rw[List.length_map,List.length_range,List.length_take,ZdC hl (by omega)];omega
 ·intro j h1 h2
  have hj:j<k:=by simpa using h1
  simp only[List.getElem_map,List.getElem_range]
  have h3:=Zdk hl (show i<N by omega) (show j<N by omega)
  rw[List.getElem_take]
  unfold Za5
  rw[List.getElem_take,List.getElem_drop]
  have h4:=(List.getElem?_eq_some_iff.1 h3).2
  exact h4.symm
theorem ZnV (a:Option Addr) (n cp N k:Nat) (m:List Int) (w:World) (h:RdI w S a n cp m) (hl:m.length=N*N) (hN:N<=24) (hm:NumL m) (hk:k<=N):
  Calls Tryz.prog 192 #[.agg #[Yv Yi N,Yv Yi N, .slice a n cp],Yv Yi k] w fun e w'=> ∃ r,e= .returned r/\OM w' (New w w') r {rows:=(k:Int),cols:=(k:Int),cells:=ZbG m N k k}/\Grow w w':=by
 obtain ⟨w1,hw1⟩: ∃ z,z=((w.alloc (.cells #[Yv Yi N,Yv Yi N, .slice a n cp] 28)).alloc (.cells #[Yv Yi 0,Yv Yi 0, .slice none 0 0] 28)).alloc (.cells #[] 3):=⟨_,rfl⟩
 have hG1:Grow w w1:=by rw[hw1];exact (((Grow.refl w).alloc _ _).alloc _ _).alloc _ _
 have bM:Blk w1 w.heap.size #[Yv Yi N,Yv Yi N, .slice a n cp] 28:=by rw[hw1];exact ((Blk.new _ _ _).alloc _).alloc _
 have bZ:Blk w1 (w.heap.size+1) #[Yv Yi 0,Yv Yi 0, .slice none 0 0] 28:=by rw[hw1];exact (Blk.newAt _ _ _ (by simp)).alloc _
 have hE:Own w1 3 1 (some ⟨w.heap.size+1+1,0,none⟩) 0 0 []:=by rw[hw1];exact Own.freshAt (cs:= #[]) (by simp) (by unfold maxLen;omega) rfl
 have HC:=hid (Zme hl hk)
 go_enter Tryz.func192,Tryz.ntmps192
 go_wp2_with fail
 rw[←hw1]
 clear hw1
 go_loopw [5,6] (fun lv iv wr=>Keep (fun q=>q<=w.heap.size+1) w1 wr/\ ∃ (i c2:Nat) (a2:Option Addr),i<=k/\iv=Yv Yi i/\lv= .slice a2 i c2/\Own wr 3 1 a2 i c2 (ints (ZdQ (List.range i)))/\ ∀ g,blk a2=some g->w.heap.size+1<g) (fun _ i _=>k-(intOf i).toNat)
 case atStart=>exact ⟨Keep.refl _ _,0,0,_,Nat.zero_le _,rfl,rfl,hE,fun g hg=>by simp at hg;omega⟩
 case round=>
  clear hE
  obtain ⟨hK,i,c2,a2,hi,rfl,rfl,hO,hlo⟩:=hrel
  by_cases hlt:i<k
  ·have HX:=hid (show ZdQ (List.range (i+1))=ZdQ (List.range i)++[(i:Int)] by unfold ZdQ;rw[List.range_succ,List.map_append];rfl)
   go_wp2_with (at_builtin;refine Zas rfl (.tmp 13) (.tmp 15) _ rfl T_ints rfl (hO.grow ((Grow.refl _).alloc _ _)) rfl (Row.built (S:=fun _=>True) 1 (by unfold maxLen;omega) rfl trivial) (by simp[Value.oneCell']) (by omega) (by unfold maxLen;omega) ?_;intro a5 c5 w5 hA5)
   have hO5:Own w5 3 1 a5 (i+1) c5 (ints (ZdQ (List.range (i+1)))):=by have:=hA5.own;rw[HX.out];simpa using this
   have hs:=hK.size
   have hs1:=hG1.size
   have hK5:Keep (fun q=>q<=w.heap.size+1) w1 w5:=(hK.trans ((Grow.refl _).alloc _ _).any).trans (hA5.keep.mono fun g _ hg e=>by have:=hlo g e;omega)
   have hlo5: ∀ g,blk a5=some g->w.heap.size+1<g:=hA5.lo (by have:=bM.lt;have:=bZ.lt;simp;omega) hlo
   go_wp2
   go_roundw
   case rel=>exact ⟨hK5,i+1,c5,a5,by omega,by go_num,rfl,hO5,hlo5⟩
   case measure=>simp[intOf];omega
  ·obtain rfl:i=k:=by omega
   have hG:Grow w wr:=hG1.keep hK fun q hq=>by omega
   have bMr:=bM.keep hK (by omega)
   have bZr:=bZ.keep hK (by omega)
   obtain ⟨⟨m0,m1,m2⟩, -⟩:=bMr.three
   have hltM:=bMr.lt
   have hrx:RdI wr (fun _=>True) a2 i c2 (ZdQ (List.range i)):=hO.rdI (fun _ _=>trivial) fun x hx=>by
    unfold ZdQ at hx
    obtain ⟨y,hy,rfl⟩:=List.mem_map.1 hx
    have:=List.mem_range.1 hy
    unfold I64;omega
   have hlr: ∀ x∈List.range i,x<N:=fun x hx=>by have:=List.mem_range.1 hx;omega
   have HLr:=hid hlr
   clear hlr
   go_wp2_with fail
   refine (Zo1 a a2 a2 n cp N N i i c2 c2 m (List.range i) (List.range i) _ (h.grow hG) hl hN hN hm hrx hrx (by simp) (by simp) (by omega) (by omega) HLr.out HLr.out).mono ?_
   rintro e w4 ⟨rv,rfl,⟨pa,pn,pc,rfl,oP,rP,fP,j1,j2⟩,hG4⟩
   rw[HC.out] at oP rP
   have bZ4:=bZr.grow hG4
   clear m0 m1 m2 hltM
   obtain ⟨⟨z0,z1,z2⟩,f0,f1,f2⟩:=bZ4.three
   have hltZ4:=bZ4.lt
   have hGf:=hG.trans hG4
   have h1:w.heap.size<=w.heap.size+1:=by omega
   have hszr:=bZr.lt
   have hKs:Keep (fun q=>q≠w.heap.size+1) w4 (((w4.setCell ⟨w.heap.size+1,0,none⟩ (Yv Yi (i:Int))).setCell ⟨w.heap.size+1,1,none⟩ (Yv Yi (i:Int))).setCell ⟨w.heap.size+1,2,none⟩ (.slice pa pn pc)):=
    (((Keep.refl _ w4).setCell (fun _ e=>e rfl) _).setCell (fun _ e=>e rfl) _).setCell (fun _ e=>e rfl) _
   have hOf:=oP.keep hKs fun g hg _ e=>by have:=(fP g hg).1;omega
   have hGz:=((hGf.setCell (p:=⟨w.heap.size+1,0,none⟩) h1 (Yv Yi (i:Int))).setCell (p:=⟨w.heap.size+1,1,none⟩) h1 (Yv Yi (i:Int))).setCell (p:=⟨w.heap.size+1,2,none⟩) h1 (.slice pa pn pc)
   have hsG:=hG.size
   go_wp2
   exact Zp Za rfl rfl rfl (((bZ4.set 0 _).set 1 _).set 2 _) ⟨_,rfl,⟨pa,pn,pc,rfl,hOf,rP,fun g hg=>⟨by have:=(fP g hg).1;omega,hOf.lt hg⟩,j1,j2⟩,hGz⟩
theorem Zot {m:Mat} (h:VM w S v m) (hb:bdM m<=1048576):
  Calls Tryz.prog 177 #[v] w fun e w'=> ∃ x,e= .returned (.tuple #[x, .bool (Zdq m)])/\OI w' (New w w') x (ldL m)/\Grow w w':=by
 have hV:=h
 obtain ⟨a,n,cp,rfl,h,ir,ic⟩:=h
 obtain ⟨w1,hw1⟩: ∃ z,z=w.alloc (.cells #[Yv Yi m.rows,Yv Yi m.cols, .slice a n cp] 28):=⟨_,rfl⟩
 have hG1:Grow w w1:=by rw[hw1];exact (Grow.refl w).alloc _ _
 have bM:Blk w1 w.heap.size #[Yv Yi m.rows,Yv Yi m.cols, .slice a n cp] 28:=by rw[hw1];exact Blk.new _ _ _
 have hs1:w1.heap.size=w.heap.size+1:=by rw[hw1];simp
 have HS1:=hid hs1
 have Hw1:=hid hw1
 clear hw1 hs1
 cases hm:Z9 m with
 |false=>
  have Hr:=hid (show Zdq m=false/\ldL m=[] by unfold Zdq ldL;rw[hm];exact ⟨rfl,rfl⟩)
  have Hm:=hid hm
  clear hm
  have hGE:Grow w1 (w1.alloc (.cells #[] 3)):=(Grow.refl _).alloc _ _
  have hOE:OI (w1.alloc (.cells #[] 3)) (fun q=>w.heap.size<=q) (.slice (some ⟨w.heap.size+1,0,none⟩) 0 0) []:=OI.mt HS1.out.symm (by omega)
  go_enter Tryz.func177,Tryz.ntmps177
  go_wp2_with fail
  rw[←Hw1.out]
  go_loopw [4,5] (fun ov kv wr=>Grow w1 wr/\kv=Yv Yi 1/\ov= .slice (some ⟨w.heap.size+1,0,none⟩) 0 0/\OI wr (fun q=>w.heap.size<=q) (.slice (some ⟨w.heap.size+1,0,none⟩) 0 0) []) (fun _ _ _=>0)
  case atStart=>exact ⟨hGE,rfl,rfl,hOE⟩
  case round=>
   obtain ⟨hGr,rfl,rfl,hO⟩:=hrel
   have bMr:=bM.grow hGr
   obtain ⟨⟨m0,m1,m2⟩, -⟩:=bMr.three
   have hltr:=bMr.lt
   have hG:=hG1.trans hGr
   by_cases h1:1<=m.rows
   ·go_wp2_with fail
    refine (ZaP (hV.grow hG) hb).mono ?_
    rintro e w2 ⟨rfl,hG2⟩
    rw[Hm.out]
    have bM2:=bMr.grow hG2
    clear m0 m1 m2 hltr
    obtain ⟨⟨m0,m1,m2⟩, -⟩:=bM2.three
    have hltr:=bM2.lt
    go_wp2_with fail
    refine (ZaP ((hV.grow hG).grow hG2) hb).mono ?_
    rintro e w3 ⟨rfl,hG3⟩
    rw[Hm.out]
    go_wp2
    go_ret2
    exact ⟨_,by rw[Hr.out.1];rfl,by rw[Hr.out.2];exact (((hO.grow hG2).grow hG3).weak (fun q hlt hq=>⟨hq,hlt⟩)),(hG.trans hG2).trans hG3⟩
   ·go_wp2_with fail
    refine (ZaP (hV.grow hG) hb).mono ?_
    rintro e w2 ⟨rfl,hG2⟩
    rw[Hm.out]
    go_wp2
    go_ret2
    exact ⟨_,by rw[Hr.out.1];rfl,by rw[Hr.out.2];exact ((hO.grow hG2).weak (fun q hlt hq=>⟨hq,hlt⟩)),hG.trans hG2⟩
 |true=>
  obtain ⟨N,e1,e2,hN,hl,hn⟩:=ZeK hm
  have Hr:=hid (show Zdq m=(ZaQ m.cells N N).isSome/\ldL m=(ZaQ m.cells N N).getD [] by unfold Zdq ldL;rw[hm,e1];exact ⟨rfl,rfl⟩)
  have Hm:=hid hm
  obtain ⟨g,hg⟩: ∃ g,g=m.cells:=⟨_,rfl⟩
  rw[e1,e2] at bM Hw1
  rw[←hg] at hl hn Hr
  have Hg:=hid hg
  have rd1:RdI w1 (fun g=>g<w.heap.size) a n cp g:=by rw[hg];exact (h.weak (T:=fun g=>g<w.heap.size) (fun _ hb _=>hb)).grow hG1
  have hE:Own (w1.alloc (.cells #[] 3)) 3 1 (some ⟨w.heap.size+1,0,none⟩) 0 0 []:=Own.freshAt (cs:= #[]) HS1.out.symm (by unfold maxLen;omega) rfl
  have Hl:=hid hl
  have HV:=hid (fun (w':World) (hG:Grow w w')=>(by rw[e1,e2] at hV;exact hV.grow hG:VM w' S (.agg #[Yv Yi (N:Int),Yv Yi (N:Int), .slice a n cp]) m))
  clear hm hg h hV hl ir ic
  rw[e1,e2]
  clear e1 e2
  go_enter Tryz.func177,Tryz.ntmps177
  go_wp2_with fail
  rw[←Hw1.out]
  go_loopw [4,5] (fun ov kv wr=>Grow w1 wr/\ ∃ (k c2:Nat) (a2:Option Addr) (l:List Int),k<=N/\kv=Yv Yi ((k+1:Nat):Int)/\ov= .slice a2 k c2/\ZaQ g N k=some l/\Own wr 3 1 a2 k c2 (ints l)/\ ∀ q,blk a2=some q->w1.heap.size<=q) (fun _ k _=>N+1-(intOf k).toNat)
  case atStart=>exact ⟨(Grow.refl _).alloc _ _,0,0,_,[],Nat.zero_le _,rfl,rfl,rfl,hE,fun q hq=>by have:=HS1.out;simp at hq;omega⟩
  case round=>
   clear hE
   obtain ⟨hGr,k,c2,a2,l,hk,rfl,rfl,hld,hO,hlo⟩:=hrel
   have bMr:=bM.grow hGr
   obtain ⟨⟨m0,m1,m2⟩, -⟩:=bMr.three
   have hltr:=bMr.lt
   have hsr:=hGr.size
   have hG:=hG1.trans hGr
   have hln:=ZgL hld
   have Hld:=hid hld
   clear hld
   by_cases hlt:k<N
   ·have hk1:((k+1:Nat):Int)<=(N:Int):=by omega
    go_wp2_with fail
    refine (ZaP (HV.out _ hG) hb).mono ?_
    rintro e w2 ⟨rfl,hG2⟩
    rw[Hm.out]
    have bM2:=bMr.grow hG2
    clear m0 m1 m2 hltr
    obtain ⟨⟨m0,m1,m2⟩, -⟩:=bM2.three
    have hltr:=bM2.lt
    have HK:=hid (show ∃ kk,kk=k+1 from ⟨_,rfl⟩)
    obtain ⟨kk,hKd⟩:=HK.out
    clear HK
    have hKi:(k:Int)+1=(kk:Int):=by omega
    rw[hKi]
    clear hKi
    have hKN:kk<=N:=by omega
    have HKd:=hid hKd
    clear hKd
    go_wp2_with fail
    refine (ZnV a n cp N kk g _ ((rd1.grow hGr).grow hG2) Hl.out (by omega) hn hKN).mono ?_
    rintro e w3 ⟨rv,rfl,⟨pa,pn,pc,rfl,oP,rP,fP, -, -⟩,hG3⟩
    have rdP:=oP.rdI (S:=fun _=>True) (fun _ _=>trivial) rP
    go_wp2_with fail
    refine (Zj1 kk pa pn pc (ZbG g N kk kk) _ rdP (ZfV Hl.out hKN hKN) (by omega) (Zhq hn kk)).mono ?_
    rintro e w4 ⟨rfl,hG4⟩
    have hGf:=((hGr.trans hG2).trans hG3).trans hG4
    have hO4:=((hO.grow hG2).grow hG3).grow hG4
    cases hd:Zak kk (ZbG g N kk kk) with
    |none=>
     have Hn:=hid (show ZaQ g N N=none from Zjt (k:=kk) (by
      rw[HKd.out] at hd ⊢
      simp only[ZaQ]
      rw[Hld.out,Option.bind_some,hd];rfl) hKN)
     rw[show ((none:Option Int).getD ZP)= -4611686018427387904 from rfl]
     clear hd
     go_wp2
     go_ret2
     exact ⟨_,by rw[Hr.out.1,Hn.out];rfl,by rw[Hr.out.2,Hn.out];exact OI.mt rfl ⟨by have:=hGf.size;have:=hG1.size;omega,by simp⟩,(hG1.trans hGf).alloc _ _⟩
    |some d=>
     have Hnx:=hid (show ZaQ g N kk=some (l++[d]) by
      rw[HKd.out] at hd ⊢
      simp only[ZaQ]
      rw[Hld.out,Option.bind_some,hd];rfl)
     have hdn:=Zcg hd
     have q2:(d== -4611686018427387904)=false:=by rw[beq_eq_false_iff_ne];omega
     rw[show ((some d:Option Int).getD ZP)=d from rfl]
     clear hd
     go_wp2_with (at_builtin;refine Zas rfl (.tmp 25) (.tmp 27) _ rfl T_ints rfl (hO4.grow ((Grow.refl _).alloc _ _)) rfl (Row.built (S:=fun _=>True) 1 (by unfold maxLen;omega) rfl trivial) (by simp[Value.oneCell']) (by omega) (by unfold maxLen;omega) ?_;intro a5 c5 w5 hA5)
     have hG5:Grow w1 w5:=hA5.grow (hGf.alloc _ _) hlo
     have hO5:Own w5 3 1 a5 (k+1) c5 (ints (l++[d])):=by have:=hA5.own;simpa using this
     have hlo5: ∀ q,blk a5=some q->w1.heap.size<=q:=hA5.lo (by have:=hGf.size;simp;omega) hlo
     rw[←HKd.out] at hO5
     rw[←HKd.out]
     have HK2:=hid (show kk=k+1 from HKd.out)
     go_wp2
     go_roundw
     case rel=>exact ⟨hG5,kk,c5,a5,l++[d],hKN,by go_num,rfl,Hnx.out,hO5,hlo5⟩
     case measure=>have:=HK2.out;simp[intOf];omega
   ·obtain rfl:k=N:=by omega
    have hk1: ¬ ((k+1:Nat):Int)<=(k:Int):=by omega
    go_wp2_with fail
    refine (ZaP (HV.out _ hG) hb).mono ?_
    rintro e w2 ⟨rfl,hG2⟩
    rw[Hm.out]
    have hO2:=hO.grow hG2
    go_wp2
    go_ret2
    exact ⟨_,by rw[Hr.out.1,Hld.out];rfl,by rw[Hr.out.2,Hld.out];exact ⟨_,_,_,rfl,hO2,fun x hx=>by have:=hln.2 x hx;unfold I64;omega,fun q hq=>⟨by have:=hlo q hq;have:=hG1.size;omega,hO2.lt hq⟩⟩,hG.trans hG2⟩

end Go.Proofs.YtgeoehnbpkediaaGreat
