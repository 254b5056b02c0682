/- The program's newWork: all three matrices are the call's own. -/
import Derived.Test.YtjpcgofidijigaaGreatDoorZTr
import Derived.Test.YtjpcgofidijigaaGreatDoorZWkQ
set_option maxHeartbeats 8000000
set_option maxRecDepth 100000
namespace Go.Proofs.YtjpcgofidijigaaGreatDoor
open Go.RowKit
open Lib (hid)
open Go.Value renaming int->Yv
open Go.IntKind renaming i64->Yi
variable {B C R c g n:Nat} {S:Nat->Prop} {a:Option Addr} {b:Bool} {cells:List Int} {s:SS} {w:World}
theorem ZiM (h:RdI w S a n c cells) (hl:cells.length=R*C) (hR:R<=24) (hC:C<=24):
  Calls Tryz.prog 111 #[.agg #[Yv Yi R,Yv Yi C, .slice a n c]] w fun e w'=> ∃ g aa au ar ca,e= .returned (.pointer (some ⟨g,0,none⟩))/\WkP w' w.heap.size g R C aa au ar ca (R*R) (C*C) false (cells,idL R,idL C)/\Grow w w':=by
 have hRC:R*C<=24*24:=Nat.mul_le_mul hR hC;have hVM:VM w S (.agg #[Yv Yi R,Yv Yi C, .slice a n c]) {rows:=(R:Int),cols:=(C:Int),cells:=cells}:=⟨a,n,c,rfl,h,by show I64 (R:Int);unfold I64;omega,by show I64 (C:Int);unfold I64;omega⟩;have hG0:=(Grow.refl w).alloc #[Yv Yi (R:Int),Yv Yi (C:Int), .slice a n c] 34;have bM:=Blk.new w #[Yv Yi (R:Int),Yv Yi (C:Int), .slice a n c] 34;go_enter Tryz.func111,Tryz.ntmps111;go_wp2_with fail;refine (Zd6 R _ hR).mono ?_;rintro e w1 ⟨au,rfl,oU,fU,hG1⟩;have fU': ∀ q,blk au=some q->w.heap.size<q:=fun q hq=>by have:=fU q hq;simp at this;omega
 have hGu:=(Grow.refl w1).alloc #[Yv Yi (R:Int),Yv Yi (R:Int), .slice au (R*R) (R*R)] 34;have bU:=Blk.new w1 #[Yv Yi (R:Int),Yv Yi (R:Int), .slice au (R*R) (R*R)] 34;have hG2:=(hG0.trans hG1).trans hGu;have bM2:=bM.grow (hG1.trans hGu);have oU2:=oU.grow hGu;have hltM:w.heap.size<w1.heap.size:=(bM.grow hG1).lt;obtain ⟨⟨a0,a1,a2⟩, -⟩:=bM2.three;clear fU;go_wp2_with fail;refine (Zd6 C _ hC).mono ?_;rintro e w3 ⟨ar,rfl,oR,fR,hG3⟩;have ltU: ∀ q,blk au=some q->q<w1.heap.size:=fun q hq=>oU.lt hq;have fR': ∀ q,blk ar=some q->w1.heap.size<q:=fun q hq=>by have:=fR q hq;simp at this;omega
 have hGr:=(Grow.refl w3).alloc #[Yv Yi (C:Int),Yv Yi (C:Int), .slice ar (C*C) (C*C)] 34;have bR:=Blk.new w3 #[Yv Yi (C:Int),Yv Yi (C:Int), .slice ar (C*C) (C*C)] 34;have hG4:=(hG2.trans hG3).trans hGr;have bM4:=bM2.grow (hG3.trans hGr);have bU4:=bU.grow (hG3.trans hGr);have oU4:=oU2.grow (hG3.trans hGr);have oR4:=oR.grow hGr;have hlt1:w.heap.size<w1.heap.size:=hltM;have hVM4:=hVM.grow hG4;clear a0 a1 a2 bM bM2 bU oU2 hG0 hG1 hG2 hG3 hGu hGr oR fR oU;have hs4:=hG4.size;have hltR:w3.heap.size<(w3.alloc (.cells #[Yv Yi (C:Int),Yv Yi (C:Int), .slice ar (C*C) (C*C)] 34)).heap.size:=bR.lt;go_wp2;generalize w3.alloc (.cells #[Yv Yi (C:Int),Yv Yi (C:Int), .slice ar (C*C) (C*C)] 34)=w4 at *;refine Zg (S:=Grow w4) [([0,2,3],some 1),([],some 4),([],some 5),([6],none)] Zm (by kernel_rfl) (fun _ _ _ _ _ h=>h) (Grow.refl _).drew ?_;show wpQuiet _ _ _ _ [_,_,_] _;repeat (first |(go_big_quiet_want;(first |refine Zh Zc rfl rfl (fun w' hG=>bM4.grow hG) ?_|refine Zh Zc rfl rfl (fun w' hG=>bU4.grow hG) ?_|refine Zh Zc rfl rfl (fun w' hG=>bR.grow hG) ?_);go_big_quiet_on;simp only[putP])|go_big_quiet_step (exact fun _=>rfl))
 refine wpQuiet_nil ?_;refine Zf rfl (fun K hK=> ?_);go_wp2_with fail;refine (ZaT (hVM4.grow (Grow.refl _).drew) (by unfold bdM;simp;omega)).mono ?_;rintro e w5 ⟨va,rfl,hA,hG5⟩;obtain ⟨aa,na,ca,rfl,oA,rA,fA, -, -⟩:=hA;replace oA:Own w5 3 1 aa na ca (ints cells):=oA;have hna:na=R*C:=by have:=oA.len;simp at this;omega
 subst hna;have hG45:=(Grow.refl w4).drew.trans hG5;have oU5:=oU4.grow hG45;have oR5:=oR4.grow hG45;have fR5: ∀ q,blk ar=some q->q<w4.heap.size:=fun q hq=>oR4.lt hq;have fA': ∀ q,blk aa=some q->w4.heap.size<=q/\q<w5.heap.size:=fun q hq=>⟨(fA q hq).1,oA.lt hq⟩;have fU5: ∀ q,blk au=some q->q<w4.heap.size:=fun q hq=>oU4.lt hq;have hs5:=hG45.size;go_wp2_with fail;refine hK _ _ (hG45) ?_;clear hK K;refine wpQuiet_nil ?_;refine Zf rfl (fun K hK=> ?_);go_wp2_with fail;refine hK _ _ (hG45) ?_;clear hK K;refine wpQuiet_nil ?_;refine Zf rfl (fun K hK=> ?_);go_wp2_with fail;refine hK _ _ ((hG45.alloc _ _)) ?_;clear hK K;show wpQuiet _ _ _ _ [_] _;try (conv=>arg 6;simp only[putP])
 repeat (first |(go_big_quiet_want;(first |refine Zh Zc rfl rfl (fun w' hG=>bM4.grow hG) ?_|refine Zh Zc rfl rfl (fun w' hG=>bU4.grow hG) ?_|refine Zh Zc rfl rfl (fun w' hG=>bR.grow hG) ?_);go_big_quiet_on;simp only[putP])|go_big_quiet_step (exact fun _=>rfl))
 refine wpQuiet_nil ?_;refine Zk ?_;go_wp2;go_ret;have hGe:=(Grow.refl w5).alloc (WkC R C aa au ar ca (R*R) (C*C) false) 153;exact ⟨w5.heap.size,aa,au,ar,ca,rfl,⟨Blk.new _ _ _,⟨oA.grow hGe,oU5.grow hGe,oR5.grow hGe,fun q hq e=>by have:=fA' q hq;have:=fU5 q e;omega,fun q hq e=>by have:=fA' q hq;have:=fR5 q e;omega,fun q hq e=>by have:=ltU q hq;have:=fR' q e;omega⟩,fun e=>by have:=fA' _ e;omega,fun e=>by have:=fU5 _ e;omega,fun e=>by have:=fR5 _ e;omega,fun q hq=>by have:=fA' q hq;omega,fun q hq=>by have:=fU' q hq;omega,fun q hq=>by have:=fR' q hq;omega,by omega⟩,(hG4.trans hG45).trans hGe⟩
def wkM (w:World) (g R C t:Nat):Nat:=match w.cell? ⟨g,2,none⟩ with
 |some (.slice aa _ _)=>if bdW w g=true then 0 else mu3 (rdL w aa (R*C)) C R t+1
 |_=>0
theorem ZpH {aa au ar:Option Addr} {ca cu cr:Nat} (h:WkP w B g R C aa au ar ca cu cr b s) (t:Nat):wkM w g R C t=if b=true then 0 else mu3 s.1 C R t+1:=by
 unfold wkM;rw[h.wk.g.c2,ZiZ h.wk];show (if b=true then 0 else mu3 (rdL w aa (R*C)) C R t+1)=_;rw[Zjp h.th.oa]
theorem ZsM (h:WkS w B g R C b s) (t:Nat):wkM w g R C t=if b=true then 0 else mu3 s.1 C R t+1:=by
 obtain ⟨_,_,_,_,_,_,hP⟩:=h;exact ZpH hP t
theorem Zr6 {t:Nat} (h:(Zab s.1 C R t).1<0):ZdB C R (min R C-t) t s=some s:=by
 cases hn:min R C-t with
 |zero=>rfl
 |succ n=>simp only[ZdB];rw[if_pos h]
theorem Zhx {m:Mat} {mr mc:Int} (hVM:VM w S (.agg #[Yv Yi mr,Yv Yi mc, .slice a n c]) m) (hb:bdM m<=1048576) (hB:Ze m=false):
  Calls Tryz.prog 76 #[.agg #[Yv Yi mr,Yv Yi mc, .slice a n c]] w fun e w'=>e= .returned (.tuple #[zM,zM,zM, .bool false])/\Grow w w':=by
 obtain ⟨w3,hw3,hG,bM,bR1,bR2,bR3, -⟩:=al4 w #[Yv Yi mr,Yv Yi mc, .slice a n c] 34 #[Yv Yi 0,Yv Yi 0, .slice none 0 0] 34 #[Yv Yi 0,Yv Yi 0, .slice none 0 0] 34 #[Yv Yi 0,Yv Yi 0, .slice none 0 0] 34;have Hw3:=hid hw3;clear hw3;have HB:=hid hB;clear hB;go_enter Tryz.func76,Tryz.ntmps76;go_wp2_with fail;rw[←Hw3.out];refine (Zz (hVM.grow hG) (by omega)).mono ?_;rintro e w4 ⟨rfl,hG4⟩;rw[HB.out];replace bR1:=bR1.grow hG4;replace bR2:=bR2.grow hG4;replace bR3:=bR3.grow hG4;replace hG:=hG.trans hG4;have h1:w.heap.size<=w.heap.size+1:=by omega
 have h2:w.heap.size<=w.heap.size+1+1:=by omega
 have h3:w.heap.size<=w.heap.size+1+1+1:=by omega
 have n12:w.heap.size+1≠w.heap.size+1+1:=by omega
 have n13:w.heap.size+1≠w.heap.size+1+1+1:=by omega
 have n23:w.heap.size+1+1≠w.heap.size+1+1+1:=by omega
 obtain ⟨⟨a0,a1,a2⟩,f0,f1,f2⟩:=bR1.three;obtain ⟨⟨b0,b1,b2⟩,g0,g1,g2⟩:=bR2.three;obtain ⟨⟨c0,c1,c2⟩,k0,k1,k2⟩:=bR3.three;go_wp2
 refine ZdO Zc Zc Zc rfl rfl rfl rfl rfl
  (((((((((bR1.set 0 _).set 1 _).set 2 _).other n12 _).other n12 _).other n12 _).other n13 _).other n13 _).other n13 _)
  (((((((((bR2.other n12.symm _).other n12.symm _).other n12.symm _).set 0 _).set 1 _).set 2 _).other n23 _).other n23 _).other n23 _)
  (((((((((bR3.other n13.symm _).other n13.symm _).other n13.symm _).other n23.symm _).other n23.symm _).other n23.symm _).set 0 _).set 1 _).set 2 _) ?_
 exact ⟨rfl,((((((((hG.setCell h1 _).setCell h1 _).setCell h1 _).setCell h2 _).setCell h2 _).setCell h2 _).setCell h3 _).setCell h3 _).setCell h3 _⟩
theorem ZiY (h:RdI w S a n c cells) (hl:cells.length=R*C) (hnum:NumL cells) (hR:R<=24) (hC:C<=24):
  Calls Tryz.prog 76 #[.agg #[Yv Yi R,Yv Yi C, .slice a n c]] w fun e w'=>Grow w w'/\((ZcM cells R C=none/\e= .returned (.tuple #[zM,zM,zM, .bool false]))\/
   ∃ s aa ca ub uc vb vc,ZcM cells R C=some s/\e= .returned (.tuple #[.agg #[Yv Yi R,Yv Yi C, .slice aa (R*C) ca], .agg #[Yv Yi R,Yv Yi R, .slice ub (R*R) uc], .agg #[Yv Yi C,Yv Yi C, .slice vb (C*C) vc], .bool true])/\(Own w' 3 1 aa (R*C) ca (ints s.1)/\(∀ q,blk aa=some q->w.heap.size<=q)/\NumL s.1)/\RdI w' (fun q=>w.heap.size<=q) ub (R*R) uc s.2.1/\RdI w' (fun q=>w.heap.size<=q) vb (C*C) vc s.2.2/\Ss C R s):=by
 have hRC:R*C<=24*24:=Nat.mul_le_mul hR hC;have hB:=Za9 hR hC hl hnum;obtain ⟨mr,hmr⟩: ∃ mr:Int,mr=R:=⟨_,rfl⟩;obtain ⟨mc,hmc⟩: ∃ mc:Int,mc=C:=⟨_,rfl⟩;have hVM:VM w S (.agg #[Yv Yi R,Yv Yi C, .slice a n c]) {rows:=(R:Int),cols:=(C:Int),cells:=cells}:=⟨a,n,c,rfl,h,by show I64 (R:Int);unfold I64;omega,by show I64 (C:Int);unfold I64;omega⟩;rw[←hmr, ←hmc] at hVM hB ⊢;obtain ⟨w3,hw3,hG,bM,bR1,bR2,bR3, -⟩:=al4 w #[Yv Yi mr,Yv Yi mc, .slice a n c] 34 #[Yv Yi 0,Yv Yi 0, .slice none 0 0] 34 #[Yv Yi 0,Yv Yi 0, .slice none 0 0] 34 #[Yv Yi 0,Yv Yi 0, .slice none 0 0] 34;have Hw3:=hid hw3;clear hw3;subst hmr;subst hmc;have HB:=hid hB;clear hB;obtain ⟨res,hres⟩: ∃ res,res=ZcM cells R C:=⟨_,rfl⟩;rw[←hres];have Hres:=hid (show ZdB C R (min R C-0) 0 (cells,idL R,idL C)=res from hres.symm);clear hres;obtain ⟨M,hM⟩: ∃ M,M=min R C:=⟨_,rfl⟩;have HM:=hid hM;have hmin:(if (C:Int)<(R:Int) then (C:Int) else (R:Int))=(M:Int):=by split<;>omega
 clear hM;go_enter Tryz.func76,Tryz.ntmps76;go_wp2_with fail;rw[←Hw3.out];refine (Zz (hVM.grow hG) (by unfold bdM;simp;omega)).mono ?_;rintro e w4 ⟨rfl,hG4⟩;rw[HB.out];have bM4:=bM.grow hG4;obtain ⟨⟨a0,a1,a2⟩, -⟩:=bM4.three;have hlR:w.heap.size+1+1+1<w4.heap.size:=(bR3.grow hG4).lt;go_wp2_with fail;refine (ZiM ((h.grow hG).grow hG4) hl hR hC).mono ?_;rintro e w5 ⟨g,aa,au,ar,ca,rfl,hP0,hG5⟩;obtain ⟨B,hB⟩: ∃ B,B=w4.heap.size:=⟨_,rfl⟩;rw[←hB] at hP0 hlR;have hs0:Ss C R (cells,idL R,idL C):=⟨hl,Zb2 R,Zb2 C,hnum,ZbZ R,ZbZ C⟩;have hW0:WkS w5 B g R C false (cells,idL R,idL C):=hP0.s;have bM5:=bM4.grow hG5;have bRa:=(bR1.grow hG4).grow hG5;have bRb:=(bR2.grow hG4).grow hG5;have bRc:=(bR3.grow hG4).grow hG5;have hGo:=(hG.trans hG4).trans hG5;have hTo: ∀ q,q<w.heap.size->q<B:=fun q hq=>by omega
 have nM:w.heap.size<B:=by omega
 have nR1:w.heap.size+1<B:=by omega
 have nR2:w.heap.size+1+1<B:=by omega
 have nR3:w.heap.size+1+1+1<B:=by omega
 clear hG hG4 hG5 bM bM4 bR1 bR2 bR3 a0 a1 a2 Hw3 hVM HB h hP0 hB
 go_upto_block 0 with fail
 go_cut [] from 7 (fun wx=>Keep (fun q=>q<B) w5 wx/\ ∃ (b:Bool) (s:SS),WkS wx B g R C b s/\((b=false/\Ss C R s/\res=some s)\/(b=true/\res=none)))
 case rest=>
  clear hW0 hs0 Hres;obtain ⟨hKx,bx,sx,Wx,hst⟩:=hcut;obtain ⟨aa,au,ar,ca,cu,cr,Px⟩:=Wx;rcases hst with ⟨rfl,hsx,hn⟩|⟨rfl,hn⟩
  ·have Hn:=hid hn;clear hn;have hGx:=hGo.keep hKx hTo;have bRx:=bRa.keep hKx nR1;have bRy:=bRb.keep hKx nR2;have bRz:=bRc.keep hKx nR3;have c0:=Px.wk.cell 0;have c1:=Px.wk.cell 1;have c2:=Px.wk.cell 2;have c3:=Px.wk.cell 3;have c4:=Px.wk.cell 4;have c5:=Px.wk.cell 5;have c6:=Px.wk.cell 6;have c7:=Px.wk.cell 7;have c8:=Px.wk.cell 8;have c9:=Px.wk.cell 9;simp only[WkC,List.getElem?_toArray,List.getElem?_cons_zero,List.getElem?_cons_succ] at c0 c1 c2 c3 c4 c5 c6 c7 c8 c9;have lg:=Px.lg;have ngR:g≠w.heap.size+1/\g≠w.heap.size+1+1/\g≠w.heap.size+1+1+1:=⟨by omega,by omega,by omega⟩;have n12:w.heap.size+1≠w.heap.size+1+1:=(by omega);have n13:w.heap.size+1≠w.heap.size+1+1+1:=(by omega);have n23:w.heap.size+1+1≠w.heap.size+1+1+1:=(by omega);have fA': ∀ q,blk aa=some q->w.heap.size+1+1+1<q:=fun q hq=>(by have:=Px.la q hq;omega);clear lg;go_wp2;refine Zg (S:=(Keep (fun q=>q≠w.heap.size+1/\q≠w.heap.size+1+1/\q≠w.heap.size+1+1+1) wc)) [([0,1,2,3,4,5,6,7,8,9,10,11],some 12),([],some 13),([],some 14),([15],none)] Zm (by kernel_rfl) (fun _ _ _ _ _ h=>h) (Keep.refl _ _).drew ?_;show wpQuiet _ _ _ _ [_,_,_,_,_,_,_,_,_,_,_,_] _;(repeat (first |(go_big_quiet_want;(first |refine Zi Zc rfl rfl (fun w' hG=>⟨hG.cell ngR c0,hG.cell ngR c1,hG.cell ngR c2⟩) ?_|refine Zi Zc rfl rfl (fun w' hG=>⟨hG.cell ngR c3,hG.cell ngR c4,hG.cell ngR c5⟩) ?_|refine Zi Zc rfl rfl (fun w' hG=>⟨hG.cell ngR c6,hG.cell ngR c7,hG.cell ngR c8⟩) ?_);go_big_quiet_on;simp only[putP])|go_big_quiet_step (exact fun _=>rfl)));refine wpQuiet_nil ?_;obtain ⟨wa,hwa⟩: ∃ wa,wa=wc.drew:=⟨_,rfl⟩;rw[←hwa];have hGa:Grow wc wa:=(by rw[hwa];exact (Grow.refl _).drew);clear hwa;have rA:=bRx.grow hGa;have rB:=bRy.grow hGa;have rC:=bRz.grow hGa;refine Zf rfl (fun K hK=> ?_);obtain ⟨⟨a0,a1,a2⟩,f0,f1,f2⟩:=rA.three;go_wp2_with fail;have hK1:Keep (fun q=>q≠w.heap.size+1) wa (((wa.setCell ⟨w.heap.size+1,0,none⟩ (Yv Yi (R:Int))).setCell ⟨w.heap.size+1,1,none⟩ (Yv Yi (C:Int))).setCell ⟨w.heap.size+1,2,none⟩ (.slice aa (R*C) ca)):=
    (((Keep.refl _ wa).setCell (fun _ e=>e rfl) _).setCell (fun _ e=>e rfl) _).setCell (fun _ e=>e rfl) _
   have rA1:=((rA.set 0 (Yv Yi (R:Int))).set 1 (Yv Yi (C:Int))).set 2 (.slice aa (R*C) ca);have rB1:=rB.keep hK1 n12.symm;have rC1:=rC.keep hK1 n13.symm;refine hK _ _ (((hGa.mono fun _ _ _=>trivial).trans (hK1.mono fun q _ (hb:q≠w.heap.size+1/\q≠w.heap.size+1+1/\q≠w.heap.size+1+1+1)=>hb.1))) ?_;clear hK K;generalize (((wa.setCell ⟨w.heap.size+1,0,none⟩ (Yv Yi (R:Int))).setCell ⟨w.heap.size+1,1,none⟩ (Yv Yi (C:Int))).setCell ⟨w.heap.size+1,2,none⟩ (.slice aa (R*C) ca))=wb at *;clear a0 a1 a2 f0 f1 f2 rA rB rC;refine wpQuiet_nil ?_;refine Zf rfl (fun K hK=> ?_);obtain ⟨⟨b0,b1,b2⟩,g0,g1,g2⟩:=rB1.three;go_wp2_with fail;have hK2:Keep (fun q=>q≠w.heap.size+1+1) wb (((wb.setCell ⟨w.heap.size+1+1,0,none⟩ (Yv Yi (R:Int))).setCell ⟨w.heap.size+1+1,1,none⟩ (Yv Yi (R:Int))).setCell ⟨w.heap.size+1+1,2,none⟩ (.slice au (R*R) cu)):=
    (((Keep.refl _ wb).setCell (fun _ e=>e rfl) _).setCell (fun _ e=>e rfl) _).setCell (fun _ e=>e rfl) _
   have rB2:=((rB1.set 0 (Yv Yi (R:Int))).set 1 (Yv Yi (R:Int))).set 2 (.slice au (R*R) cu);have rA2:=rA1.keep hK2 n12;have rC2:=rC1.keep hK2 n23.symm;refine hK _ _ ((((hGa.mono fun _ _ _=>trivial).trans (hK1.mono fun q _ (hb:q≠w.heap.size+1/\q≠w.heap.size+1+1/\q≠w.heap.size+1+1+1)=>hb.1)).trans (hK2.mono fun q _ (hb:q≠w.heap.size+1/\q≠w.heap.size+1+1/\q≠w.heap.size+1+1+1)=>hb.2.1))) ?_;clear hK K;generalize (((wb.setCell ⟨w.heap.size+1+1,0,none⟩ (Yv Yi (R:Int))).setCell ⟨w.heap.size+1+1,1,none⟩ (Yv Yi (R:Int))).setCell ⟨w.heap.size+1+1,2,none⟩ (.slice au (R*R) cu))=wd at *;clear b0 b1 b2 g0 g1 g2 rA1 rB1 rC1;refine wpQuiet_nil ?_;refine Zf rfl (fun K hK=> ?_);obtain ⟨⟨c0,c1,c2⟩,k0,k1,k2⟩:=rC2.three;go_wp2_with fail;have hK3:Keep (fun q=>q≠w.heap.size+1+1+1) wd (((wd.setCell ⟨w.heap.size+1+1+1,0,none⟩ (Yv Yi (C:Int))).setCell ⟨w.heap.size+1+1+1,1,none⟩ (Yv Yi (C:Int))).setCell ⟨w.heap.size+1+1+1,2,none⟩ (.slice ar (C*C) cr)):=
    (((Keep.refl _ wd).setCell (fun _ e=>e rfl) _).setCell (fun _ e=>e rfl) _).setCell (fun _ e=>e rfl) _
   have rC3:=((rC2.set 0 (Yv Yi (C:Int))).set 1 (Yv Yi (C:Int))).set 2 (.slice ar (C*C) cr);have rA3:=rA2.keep hK3 n13;have rB3:=rB2.keep hK3 n23;refine hK _ _ (((((hGa.mono fun _ _ _=>trivial).trans (hK1.mono fun q _ (hb:q≠w.heap.size+1/\q≠w.heap.size+1+1/\q≠w.heap.size+1+1+1)=>hb.1)).trans (hK2.mono fun q _ (hb:q≠w.heap.size+1/\q≠w.heap.size+1+1/\q≠w.heap.size+1+1+1)=>hb.2.1)).trans (hK3.mono fun q _ (hb:q≠w.heap.size+1/\q≠w.heap.size+1+1/\q≠w.heap.size+1+1+1)=>hb.2.2))) ?_;clear hK K;show wpQuiet _ _ _ _ [_] _;(try (conv=>arg 6;simp only[putP]));(repeat (first |(go_big_quiet_want;(first |refine Zi Zc rfl rfl (fun w' hG=>⟨hG.cell ngR c0,hG.cell ngR c1,hG.cell ngR c2⟩) ?_|refine Zi Zc rfl rfl (fun w' hG=>⟨hG.cell ngR c3,hG.cell ngR c4,hG.cell ngR c5⟩) ?_|refine Zi Zc rfl rfl (fun w' hG=>⟨hG.cell ngR c6,hG.cell ngR c7,hG.cell ngR c8⟩) ?_);go_big_quiet_on;simp only[putP])|go_big_quiet_step (exact fun _=>rfl)));refine wpQuiet_nil ?_;refine Zk ?_;have hGe:=(((hGx.trans hGa).keep hK1 (fun q hq=>by omega)).keep hK2 (fun q hq=>by omega)).keep hK3 (fun q hq=>by omega);have fU': ∀ q,blk au=some q->w.heap.size+1+1+1<q:=fun q hq=>(by have:=Px.lu q hq;omega);have fV': ∀ q,blk ar=some q->w.heap.size+1+1+1<q:=fun q hq=>(by have:=Px.lr q hq;omega);have hoU:=((((Px.th.ou.grow hGa).keep hK1 (fun q hq _ e=>by have:=fU' q hq;omega)).keep hK2 (fun q hq _ e=>by have:=fU' q hq;omega)).keep hK3 (fun q hq _ e=>by have:=fU' q hq;omega)).rdI (S:=fun q=>w.heap.size<=q) (fun q hq=>by have:=fU' q hq;omega) (Zy hsx.nu);have hoV:=((((Px.th.ov.grow hGa).keep hK1 (fun q hq _ e=>by have:=fV' q hq;omega)).keep hK2 (fun q hq _ e=>by have:=fV' q hq;omega)).keep hK3 (fun q hq _ e=>by have:=fV' q hq;omega)).rdI (S:=fun q=>w.heap.size<=q) (fun q hq=>by have:=fV' q hq;omega) (Zy hsx.nv);have hoA:=(((Px.th.oa.grow hGa).keep hK1 (fun q hq _ e=>by have:=fA' q hq;omega)).keep hK2 (fun q hq _ e=>by have:=fA' q hq;omega)).keep hK3 (fun q hq _ e=>by have:=fA' q hq;omega);go_wp2;exact ZdO Zc Zc Zc rfl rfl rfl rfl rfl rA3 rB3 rC3 ⟨hGe, .inr ⟨sx,aa,ca,_,_,_,_,Hn.out,rfl,⟨hoA,(fun q hq=>by have:=fA' q hq;omega),hsx.na⟩,hoU,hoV,hsx⟩⟩
  ·have Hn:=hid hn;clear hn;have hG:=hGo.keep hKx hTo;replace bR1:=bRa.keep hKx nR1;replace bR2:=bRb.keep hKx nR2;replace bR3:=bRc.keep hKx nR3;obtain ⟨-, -, -, -, -, -,c9, -⟩:=Px.wk.g;have h1:w.heap.size<=w.heap.size+1:=(by omega);have h2:w.heap.size<=w.heap.size+1+1:=(by omega);have h3:w.heap.size<=w.heap.size+1+1+1:=(by omega);have n12:w.heap.size+1≠w.heap.size+1+1:=(by omega);have n13:w.heap.size+1≠w.heap.size+1+1+1:=(by omega);have n23:w.heap.size+1+1≠w.heap.size+1+1+1:=(by omega);obtain ⟨⟨a0,a1,a2⟩,f0,f1,f2⟩:=bR1.three;obtain ⟨⟨b0,b1,b2⟩,g0,g1,g2⟩:=bR2.three;obtain ⟨⟨c0,c1,c2⟩,k0,k1,k2⟩:=bR3.three;go_wp2
   refine ZdO Zc Zc Zc rfl rfl rfl rfl rfl
    (((((((((bR1.set 0 _).set 1 _).set 2 _).other n12 _).other n12 _).other n12 _).other n13 _).other n13 _).other n13 _)
    (((((((((bR2.other n12.symm _).other n12.symm _).other n12.symm _).set 0 _).set 1 _).set 2 _).other n23 _).other n23 _).other n23 _)
    (((((((((bR3.other n13.symm _).other n13.symm _).other n13.symm _).other n23.symm _).other n23.symm _).other n23.symm _).set 0 _).set 1 _).set 2 _) ?_
   exact ⟨((((((((hG.setCell h1 _).setCell h1 _).setCell h1 _).setCell h2 _).setCell h2 _).setCell h2 _).setCell h3 _).setCell h3 _).setCell h3 _, .inl ⟨Hn.out,rfl⟩⟩
 go_wp2;go_loopw [7] (fun tv wr=>Keep (fun q=>q<B) w5 wr/\ ∃ (t:Nat) (b:Bool) (s:SS),t<=24/\tv=Yv Yi t/\WkS wr B g R C b s/\((b=false/\Ss C R s/\ZdB C R (min R C-t) t s=res)\/(b=true/\res=none))) (fun tv _=>24-(intOf tv).toNat);case atStart=>exact ⟨Keep.refl _ _,0,false,_,by omega,rfl,hW0, .inl ⟨rfl,hs0,Hres.out⟩⟩
 case round=>as_aux_lemma=>
  clear hW0 hs0 Hres;obtain ⟨hK,t,b,s,ht24,rfl,hW,hst⟩:=hrel;have bMr:=bM5.keep hK nM;obtain ⟨⟨m0,m1,m2⟩, -⟩:=bMr.three;obtain ⟨aa,au,ar,ca,cu,cr,hP⟩:=hW;obtain ⟨c0,c1,c2, -, -, -,c9, -⟩:=hP.wk.g;have hgl:g<wr.heap.size:=Blk.lt hP.wk;by_cases hlt:t<R/\t<C
  ·obtain ⟨ht,htC⟩:=hlt;have htM:t<M:=(by have:=HM.out;omega);rcases hst with ⟨rfl,hs,hh⟩|⟨rfl,hn⟩
   ·have Hh:=hid hh;clear hh;go_wp2_with (refine ZeD (o:=⟨some 24,_,_,_,_,_⟩) rfl rfl rfl rfl hmin ?_);refine (ZgL B g R C t aa au ar ca cu cr false s _ hP hs (by omega) (by omega) hR hC).mono ?_;rintro e w6 ⟨rfl,hG6⟩;have hK6:=hK.trans hG6.any;have hW6:WkS w6 B g R C false s:=(hP.grow hG6).s;clear m0 m1 m2 c0 c1 c2 c9 hgl bMr hP;by_cases hl0:0<=(Zab s.1 C R t).1
    ·have hunf:=ZqE (s:=s) ht htC;rw[if_neg (by omega),Hh.out] at hunf;obtain ⟨sa,hsa⟩: ∃ sa,sa=sA C R t s:=⟨_,rfl⟩;rw[←hsa] at hunf;have Hr:=hid hunf;have q0:decide (0<=(Zab s.1 C R t).1)=true:=decide_eq_true hl0;clear hunf Hh;go_wp2;go_loopw [] (fun wr=>Keep (fun q=>q<B) w5 wr/\ ∃ (b:Bool) (s:SS),WkS wr B g R C b s/\((b=false/\Ss C R s/\0<=(Zab s.1 C R t).1/\sA C R t s=sa)\/(b=true/\sa=none))) (fun wr=>wkM wr g R C t);case atStart=>exact ⟨hK6,false,s,hW6, .inl ⟨rfl,hs,hl0,hsa.symm⟩⟩
     case round=>
      clear hK6 hW6 hs hl0 hsa;obtain ⟨hK,b,s,hW,hst⟩:=hrel;obtain ⟨aa,au,ar,ca,cu,cr,hP⟩:=hW;obtain ⟨c0,c1,c2, -, -, -,c9, -⟩:=hP.wk.g;have hgl:g<wr.heap.size:=Blk.lt hP.wk;rcases hst with ⟨rfl,hs,hl0,hsa⟩|⟨rfl,hn⟩
      ·have hnone:=fun (h0:rnd C R t s=none)=>ZrS h0;have hdone:=fun s' (h0:rnd C R t s=some (s',true))=>Zsa h0;have hstep:=fun s' (h0:rnd C R t s=some (s',false))=>Zrx ht htC hs hl0 h0;have hspec:=fun s' b' (h0:rnd C R t s=some (s',b'))=>Zgc ht htC hs hl0 h0;rw[hsa] at hnone hdone hstep;have Hnone:=hid hnone;have Hdone:=hid hdone;have Hstep:=hid hstep;have Hspec:=hid hspec;have Hm1:=hid (ZpH hP t);clear hnone hdone hstep hspec hsa;go_wp2_with fail;refine (Zow B g R C t s _ hP.s hs ht htC hl0 hR hC).mono ?_;rintro e w8 ⟨ret,b',s',rfl,hW8,hK8,hF⟩;have hK18:=hK.trans hK8;have Hm2:=hid (ZsM hW8 t);clear c0 c1 c2 c9 hgl hl0 hP;rcases hF with ⟨rfl,hF⟩|⟨rfl,hF⟩
       ·cases ret with
        |true=>
         obtain ⟨hs8,hm8⟩:=Hspec.out s' false hF;obtain ⟨hl8,hm8⟩:=hm8 rfl;have Hl8:=hid hl8;have Hm8:=hid hm8;have Hs8:=hid (Hstep.out s' hF);clear hF hl8 hm8 Hspec Hdone Hnone Hstep;go_wp2;go_roundw;case rel=>exact ⟨hK18,false,s',hW8, .inl ⟨rfl,hs8,Hl8.out,Hs8.out.symm⟩⟩
         case measure=>show wkM w8 g R C t<wkM wr g R C t;rw[Hm2.out,Hm1.out];have:=Hm8.out;simp only[Bool.false_eq_true,if_false];omega
        |false=>
         obtain ⟨hs8, -⟩:=Hspec.out s' true hF;have Hn:=hid (show res=ZdB C R (min R C-(t+1)) (t+1) (ZfC C R t s') by rw[Hr.out,Hdone.out s' hF];rfl);clear hF Hspec Hdone Hnone Hstep hs Hm1 Hm2;obtain ⟨aa,au,ar,ca,cu,cr,P8⟩:=hW8;obtain ⟨c0,c1,c2, -, -, -,c9, -⟩:=P8.wk.g;have hgl:g<w8.heap.size:=Blk.lt P8.wk;have rA:=P8.th.oa.rdI (S:=fun _=>True) (fun _ _=>trivial) (Zy hs8.na);have hnt:t*C+t<R*C:=Zr htC ht;have Hg1:=hid (show s'.1[t*C+t]? =some (cell s'.1 C t t) from ZM (by rw[hs8.la];exact hnt));clear hnt;go_wp2_with fail;refine (Zai aa _ ca C t t (t*C+t) (R:Int) _ s'.1 _ rA rfl Hg1.out (by omega) (by omega) (by omega) (by omega)).mono ?_;rintro e w9 ⟨rfl,hG9⟩;have P9:=P8.grow hG9;have hK9:=hK18.trans hG9.any;clear c0 c1 c2 c9 hgl rA;by_cases hneg:cell s'.1 C t t<0
         ·have Hs:=hid (show ZfC C R t s'=ZhZ C R t s' by unfold ZfC;rw[if_pos hneg]);have q1:decide (cell s'.1 C t t<0)=true:=decide_eq_true hneg;clear hneg;go_wp2_with fail;refine (ZqB B g R C t s' _ P9.s hs8 ht hR hC).mono ?_;rintro e w10 ⟨rfl,hW10,hK10⟩;go_wp2;go_roundw;case rel=>exact ⟨hK9.trans hK10,t+1,false,_,by omega,by go_num,hW10, .inl ⟨rfl,Zmf hs8,by rw[←Hs.out];exact Hn.out.symm⟩⟩
          case measure=>simp[intOf];omega
         ·have Hs:=hid (show ZfC C R t s'=s' by unfold ZfC;rw[if_neg hneg]);have q1:decide (cell s'.1 C t t<0)=false:=decide_eq_false hneg;clear hneg;go_wp2;go_roundw;case rel=>exact ⟨hK9,t+1,false,s',by omega,by go_num,P9.s, .inl ⟨rfl,hs8,by rw[Hn.out,Hs.out]⟩⟩
          case measure=>simp[intOf];omega
       ·have Hsn:=hid (Hnone.out hF);have Hn:=hid (show res=none by rw[Hr.out,Hnone.out hF];rfl);clear hF Hspec Hdone Hnone Hstep hs;cases ret with
        |true=>
         go_wp2;go_roundw;case rel=>exact ⟨hK18,true,s',hW8, .inr ⟨rfl,Hsn.out⟩⟩
         case measure=>show wkM w8 g R C t<wkM wr g R C t;rw[Hm2.out,Hm1.out];simp
        |false=>
         obtain ⟨aa,au,ar,ca,cu,cr,P8⟩:=hW8;obtain ⟨c0,c1,c2, -, -, -,c9, -⟩:=P8.wk.g;have hgl:g<w8.heap.size:=Blk.lt P8.wk;clear Hm1 Hm2;go_wp2;go_roundw;case rel=>exact ⟨hK18,t+1,true,s',by omega,by go_num,P8.s, .inr ⟨rfl,Hn.out⟩⟩
         case measure=>simp[intOf];omega
      ·have Hn:=hid (show res=none by rw[Hr.out,hn];rfl);clear hn;go_wp2;go_roundw;case rel=>exact ⟨hK,t+1,true,s,by omega,by go_num,hP.s, .inr ⟨rfl,Hn.out⟩⟩
       case measure=>simp[intOf];omega
    ·have Hn:=hid (show res=some s by rw[←Hh.out,Zr6 (by omega)]);have q0:decide (0<=(Zab s.1 C R t).1)=false:=decide_eq_false hl0;go_wp2
     go_meet
     exact ⟨hK6,false,s,hW6, .inl ⟨rfl,hs,Hn.out⟩⟩
   ·go_wp2_with (refine ZeD (o:=⟨some 24,_,_,_,_,_⟩) rfl rfl rfl rfl hmin ?_)
    go_meet
    exact ⟨hK,true,s,hP.s, .inr ⟨rfl,hn⟩⟩
  ·have htM: ¬ t<M:=(by have:=HM.out;omega);rcases hst with ⟨rfl,hs,hh⟩|⟨rfl,hn⟩
   ·have Hn:=hid (show res=some s by rw[←hh,Zq0 hlt]);clear hh;go_wp2_with (refine ZeD (o:=⟨some 24,_,_,_,_,_⟩) rfl rfl rfl rfl hmin ?_)
    go_meet
    exact ⟨hK,false,s,hP.s, .inl ⟨rfl,hs,Hn.out⟩⟩
   ·go_wp2_with (refine ZeD (o:=⟨some 24,_,_,_,_,_⟩) rfl rfl rfl rfl hmin ?_)
    go_meet
    exact ⟨hK,true,s,hP.s, .inr ⟨rfl,hn⟩⟩
theorem Zji (h:RdI w S a n c cells) (hl:cells.length=R*C) (hnum:NumL cells) (hR:R<=24) (hC:C<=24):
  Calls Tryz.prog 76 #[.agg #[Yv Yi R,Yv Yi C, .slice a n c]] w fun e w'=>Grow w w'/\((ZcM cells R C=none/\e= .returned (.tuple #[zM,zM,zM, .bool false]))\/
   ∃ s aa ca ub un uc vb vn vc,ZcM cells R C=some s/\e= .returned (.tuple #[.agg #[Yv Yi R,Yv Yi C, .slice aa (R*C) ca], .agg #[Yv Yi R,Yv Yi R, .slice ub un uc], .agg #[Yv Yi C,Yv Yi C, .slice vb vn vc], .bool true])/\(Own w' 3 1 aa (R*C) ca (ints s.1)/\(∀ q,blk aa=some q->w.heap.size<=q)/\NumL s.1)):=by
 refine (ZiY h hl hnum hR hC).mono ?_;rintro e w' ⟨hG,hr⟩;refine ⟨hG, ?_⟩;rcases hr with h1|⟨s,aa,ca,ub,uc,vb,vc,h1,h2,h3, -⟩
 ·exact .inl h1
 ·exact .inr ⟨s,aa,ca,ub,_,uc,vb,_,vc,h1,h2,h3⟩
theorem ZnL (h:RdI w S a n c cells) (hl:cells.length=R*C) (hnum:NumL cells) (hR:R<=24) (hC:C<=24):
  Calls Tryz.prog 76 #[.agg #[Yv Yi R,Yv Yi C, .slice a n c]] w fun e w'=>Grow w w'/\((ZcM cells R C=none/\e= .returned (.tuple #[zM,zM,zM, .bool false]))\/
   ∃ s aa ca ub un uc vb vn vc,ZcM cells R C=some s/\e= .returned (.tuple #[.agg #[Yv Yi R,Yv Yi C, .slice aa (R*C) ca], .agg #[Yv Yi R,Yv Yi R, .slice ub un uc], .agg #[Yv Yi C,Yv Yi C, .slice vb vn vc], .bool true])/\RdI w' (fun q=>w.heap.size<=q) aa (R*C) ca s.1):=by
 refine (Zji h hl hnum hR hC).mono ?_;rintro e w' ⟨hG,hr⟩;refine ⟨hG, ?_⟩;rcases hr with hr|⟨s,aa,ca,ub,un,uc,vb,vn,vc,h1,h2,⟨h3,h4,h5⟩⟩
 ·exact .inl hr
 ·exact .inr ⟨s,aa,ca,ub,un,uc,vb,vn,vc,h1,h2,h3.rdI h4 (Zy h5)⟩

end Go.Proofs.YtjpcgofidijigaaGreatDoor
