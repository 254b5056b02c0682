/- The reference's IdentityMatrix and HermiteForm. -/
import Derived.Test.YtgeoehnbpkediaaGreatZHermW
set_option maxHeartbeats 8000000
set_option maxRecDepth 100000
namespace Go.Proofs.YtgeoehnbpkediaaGreat
open Go.RowKit
open Lib (hid)
open Go.Value renaming int->Yv
open Go.IntKind renaming i64->Yi
variable {C R c n:Nat} {S:Nat->Prop} {a:Option Addr} {m:Mat} {s:HS} {w:World}
def idN (n k:Nat):List Int:=(List.range k).foldl (fun l i=>l.set (i*n+i) 1) (List.replicate (n*n) 0)
theorem ZhB (n k:Nat):idN n (k+1)=(idN n k).set (k*n+k) 1:=by unfold idN;rw[List.range_succ,List.foldl_append];rfl
theorem ZoV (n k:Nat):(idN n k).length=n*n:=by
 induction k with
 |zero=>simp[idN]
 |succ k ih=>rw[ZhB,List.length_set,ih]
theorem Zd4 (n:Nat) (w:World) (hn:n<=24):
  Calls Tryz.prog 124 #[Yv Yi n] w fun e w'=> ∃ a,e= .returned (.tuple #[.agg #[Yv Yi n,Yv Yi n, .slice a (n*n) (n*n)], .bool true])/\Own w' 3 1 a (n*n) (n*n) (ints (idL n))/\(∀ q,blk a=some q->w.heap.size<=q)/\Grow w w':=by
 have hin:inB (n:Int) 0 24=true:=by unfold inB;simp;omega
 have Hin:=hid hin;clear hin
 have hnn:n*n<=24*24:=Nat.mul_le_mul hn hn
 go_enter Tryz.func124,Tryz.ntmps124
 go_wp2_with fail
 refine (Zz _ _ _ _).mono ?_
 rintro e _ ⟨rfl,rfl⟩
 rw[Hin.out]
 have hGz:=(Grow.refl w).alloc #[Yv Yi 0,Yv Yi 0, .slice none 0 0] 28
 have bZ:=Blk.new w #[Yv Yi 0,Yv Yi 0, .slice none 0 0] 28
 go_wp2_with fail
 refine (Zg0 n n _ (by omega) (by omega)).mono ?_
 rintro e w1 ⟨a,rfl,hO,hB,hG1⟩
 have hB': ∀ q,blk a=some q->w.heap.size<q:=fun q hq=>by have:=hB q hq;simp at this;omega
 have hG01:=hGz.trans hG1
 have bZ1:=bZ.grow hG1
 have hGa:=(Grow.refl w1).alloc #[Yv Yi (n:Int),Yv Yi (n:Int), .slice a (n*n) (n*n)] 28
 have bM:=Blk.new w1 #[Yv Yi (n:Int),Yv Yi (n:Int), .slice a (n*n) (n*n)] 28
 have hO2:=hO.grow hGa
 have bZ2:=bZ1.grow hGa
 have hG02:=hG01.trans hGa
 have nM:blk a≠some w1.heap.size:=fun e=>by have:=hO.lt e;omega
 have nZ:blk a≠some w.heap.size:=fun e=>by have:=hB' _ e;omega
 have hs1:=hG01.size
 clear hO bZ bZ1 hG01 hGz hG1
 go_wp2
 go_loopw [5] (fun q wr=>Keep (fun q=>blk a≠some q) (w1.alloc (.cells #[Yv Yi (n:Int),Yv Yi (n:Int), .slice a (n*n) (n*n)] 28)) wr/\ ∃ k:Nat,k<=n/\q=Yv Yi k/\Own wr 3 1 a (n*n) (n*n) (ints (idN n k))) (fun q _=>n-(intOf q).toNat)
 case atStart=>exact ⟨Keep.refl _ _,0,Nat.zero_le _,rfl,by simpa [idN] using hO2⟩
 case round=>
  clear hO2
  obtain ⟨hK,k,hk,rfl,hO⟩:=hrel
  have bMr:=bM.keep hK nM
  obtain ⟨⟨a0,a1,a2⟩, -⟩:=bMr.three
  have hltM:=bMr.lt
  by_cases hlt:k<n
  ·have hix:k*n+k<n*n:=Zl hlt hlt
   obtain ⟨pb,rfl⟩: ∃ pb,a=some ⟨pb,0,none⟩:=by
    cases a with
    |none=>have:=hO.nil rfl;have:=hO.le;omega
    |some q=>exact ⟨q.block,by rw[←(hO.block q rfl).1]⟩
   have hc1:=hO.cell (ZaH (j:=k*n+k) (x:=(idN n k).getD (k*n+k) 0) (by rw[ZoV];exact hix) rfl)
   have hfr:=hO.free (k*n+k)
   have u1:=Zab (i:=k) (c:=n) (by omega) (by omega)
   have u2:=ZaG (i:=k) (c:=n) (j:=k) (by omega) (by omega) (by omega) rfl
   have hO9:=hO.set (k*n+k) (Yv Yi 1)
   rw[←ints_set, ←ZhB] at hO9
   generalize (idN n k).getD (k*n+k) 0=x at *
   generalize k*n+k=ix at *
   simp only at hc1 hfr hO9
   have hKs:Keep (fun q=>blk (some (⟨pb,0,none⟩:Addr))≠some q) wr (wr.setCell ⟨pb,ix,none⟩ (Yv Yi 1)):=(Keep.refl _ wr).setCell (p:=⟨pb,ix,none⟩) (fun _ e=>e rfl) _
   go_wp2
   go_roundw
   case rel=>exact ⟨hK.trans hKs,k+1,by omega,by go_num,hO9⟩
   case measure=>simp[intOf];omega
  ·have hkn:k=n:=by omega
   subst hkn
   have bZr:=bZ2.keep hK nZ
   obtain ⟨⟨z0,z1,z2⟩,g0,g1,g2⟩:=bZr.three
   have hltZ:=bZr.lt
   have hKs:Keep (fun q=>q≠w.heap.size) wr (((wr.setCell ⟨w.heap.size,0,none⟩ (Yv Yi (k:Int))).setCell ⟨w.heap.size,1,none⟩ (Yv Yi (k:Int))).setCell ⟨w.heap.size,2,none⟩ (.slice a (k*k) (k*k))):=
    (((Keep.refl _ wr).setCell (fun _ e=>e rfl) _).setCell (fun _ e=>e rfl) _).setCell (fun _ e=>e rfl) _
   go_wp2
   refine Zf Za rfl rfl rfl (((bZr.set 0 _).set 1 _).set 2 _) ⟨a,rfl,hO.keep hKs (fun q hq _ e=>by have:=hB' q hq;omega),(fun q hq=>Nat.le_of_lt (hB' q hq)), ?_⟩
   exact (hG02.keep hK (fun q hq e=>by have:=hB' q e;omega)).keep hKs (fun q hq e=>by omega)
def Zbu (m:Mat):Option HS:=if Zg m=true then Zbv m.cells m.rows.toNat m.cols.toNat else none
def ZgO (m:Mat):Bool:=(Zbu m).isSome
def Zjo (m:Mat):Mat:=match Zbu m with |some s=>{rows:=m.rows,cols:=m.cols,cells:=s.1}|none=>{rows:=0,cols:=0,cells:=[]}
def Zjp (m:Mat):Mat:=match Zbu m with |some s=>{rows:=m.rows,cols:=m.rows,cells:=s.2}|none=>{rows:=0,cols:=0,cells:=[]}
theorem ZlS (h:Zbu m=none):ZgO m=false/\Zjo m={rows:=0,cols:=0,cells:=[]}/\Zjp m={rows:=0,cols:=0,cells:=[]}:=by
 unfold ZgO Zjo Zjp;rw[h];exact ⟨rfl,rfl,rfl⟩
theorem Zlu (h:Zbu m=some s):ZgO m=true/\Zjo m={rows:=m.rows,cols:=m.cols,cells:=s.1}/\Zjp m={rows:=m.rows,cols:=m.rows,cells:=s.2}:=by
 unfold ZgO Zjo Zjp;rw[h];exact ⟨rfl,rfl,rfl⟩
theorem ZaF {l:List Int} (hR:R<=24) (hC:C<=24) (hl:l.length=R*C) (h:NumL l):Zg {rows:=R,cols:=C,cells:=l}=true:=by
 unfold Zg ZbD
 rw[show Zds l=true from List.all_eq_true.2 fun x hx=>ZS.2 (h x hx),Bool.and_true,decide_eq_true_eq]
 exact ⟨by simp,by simp;omega,by simp,by simp;omega,by simp[hl]⟩
theorem Zw {P:Program} {fn:Func} {R:Ending->World->Prop} {a:Act} {ty:TypeId} {cs ds:Array Value} {p q u:Tmp} {g g':Nat} {t:TypeId} (hT:StT P ty cs.size) (hT':StT P ty ds.size) (h:fn.results= #[.cell p ty, .cell q ty, .tmp u]) (hd:a.defers=[]) (hp:a.tmps.getD p undef= .pointer (some ⟨g,0,none⟩)) (hq:a.tmps.getD q undef= .pointer (some ⟨g',0,none⟩))
  (hb:Blk w g cs t) (hb':Blk w g' ds t) (hR:R (.returned (.tuple #[.agg cs, .agg ds,a.tmps.getD u undef])) w):bodyPost P fn R .ret a w:=by
 have hp':a.tmps[p]?.getD undef= .pointer (some ⟨g,0,none⟩):=by simpa using hp
 have hq':a.tmps[q]?.getD undef= .pointer (some ⟨g',0,none⟩):=by simpa using hq
 refine bodyPost_ret (v:= .tuple #[.agg cs, .agg ds,a.tmps.getD u undef]) ?_ hd hR
 simp[results,h,hp',hq',asAddr,hT.load hb,hT'.load hb']
theorem ZnD {m:List Int} (hl:m.length=R*C) (hm:NumL m) (h:Zbv m R C=some s):Hs C R s:=(ZbQ hl hm h).1
theorem Ze8 {mr mc:Int} (hVM:VM w S (.agg #[Yv Yi mr,Yv Yi mc, .slice a n c]) m) (hb:bdM m<=1048576) (hB:Zg m=false):
  Calls Tryz.prog 94 #[.agg #[Yv Yi mr,Yv Yi mc, .slice a n c]] w fun e w'=>e= .returned (.tuple #[.agg #[Yv Yi 0,Yv Yi 0, .slice none 0 0], .agg #[Yv Yi 0,Yv Yi 0, .slice none 0 0], .bool false])/\Grow w w':=by
 obtain ⟨w3,hw3⟩: ∃ w3,w3=((w.alloc (.cells #[Yv Yi mr,Yv Yi mc, .slice a n c] 28)).alloc (.cells #[Yv Yi 0,Yv Yi 0, .slice none 0 0] 28)).alloc (.cells #[Yv Yi 0,Yv Yi 0, .slice none 0 0] 28):=⟨_,rfl⟩
 have hG:Grow w w3:=by rw[hw3];exact (((Grow.refl w).alloc _ _).alloc _ _).alloc _ _
 have bM:Blk w3 w.heap.size #[Yv Yi mr,Yv Yi mc, .slice a n c] 28:=by rw[hw3];exact ((Blk.new w _ _).alloc _).alloc _
 have bR1:Blk w3 (w.heap.size+1) #[Yv Yi 0,Yv Yi 0, .slice none 0 0] 28:=by rw[hw3];exact (Blk.newAt _ _ _ (by simp)).alloc _
 have bR2:Blk w3 (w.heap.size+1+1) #[Yv Yi 0,Yv Yi 0, .slice none 0 0] 28:=by rw[hw3];exact Blk.newAt _ _ _ (by simp)
 have Hw3:=hid hw3;clear hw3
 have HB:=hid hB;clear hB
 go_enter Tryz.func94,Tryz.ntmps94
 go_wp2_with fail
 rw[←Hw3.out]
 refine (ZJ (hVM.grow hG) (by omega)).mono ?_
 rintro e w4 ⟨rfl,hG4⟩
 rw[HB.out]
 replace bR1:=bR1.grow hG4
 replace bR2:=bR2.grow hG4
 replace hG:=hG.trans hG4
 obtain ⟨⟨a0,a1,a2⟩,f0,f1,f2⟩:=bR1.three
 obtain ⟨⟨b0,b1,b2⟩,g0,g1,g2⟩:=bR2.three
 go_wp2
 have h1:w.heap.size<=w.heap.size+1:=by omega
 have h2:w.heap.size<=w.heap.size+1+1:=by omega
 refine Zw Za Za rfl rfl rfl rfl ((((((bR1.set 0 _).set 1 _).set 2 _).other (by simp) _).other (by simp) _).other (by simp) _) ((((((bR2.other (by simp) _).other (by simp) _).other (by simp) _).set 0 _).set 1 _).set 2 _) ?_
 exact ⟨rfl,(((((hG.setCell h1 _).setCell h1 _).setCell h1 _).setCell h2 _).setCell h2 _).setCell h2 _⟩
theorem Zev {cells:List Int} (h:RdI w S a n c cells) (hl:cells.length=R*C) (hnum:NumL cells) (hR:R<=24) (hC:C<=24):
  Calls Tryz.prog 94 #[.agg #[Yv Yi R,Yv Yi C, .slice a n c]] w fun e w'=>Grow w w'/\((Zbv cells R C=none/\e= .returned (.tuple #[.agg #[Yv Yi 0,Yv Yi 0, .slice none 0 0], .agg #[Yv Yi 0,Yv Yi 0, .slice none 0 0], .bool false]))\/
   ∃ s aa ca au cu,Zbv cells R C=some s/\e= .returned (.tuple #[.agg #[Yv Yi R,Yv Yi C, .slice aa (R*C) ca], .agg #[Yv Yi R,Yv Yi R, .slice au (R*R) cu], .bool true])/\RdI w' (fun q=>w.heap.size<=q) aa (R*C) ca s.1/\RdI w' (fun q=>w.heap.size<=q) au (R*R) cu s.2):=by
 have hRC:R*C<=24*24:=Nat.mul_le_mul hR hC
 have hRR:R*R<=24*24:=Nat.mul_le_mul hR hR
 have hB:=ZaF hR hC hl hnum
 obtain ⟨mr,hmr⟩: ∃ mr:Int,mr=R:=⟨_,rfl⟩
 obtain ⟨mc,hmc⟩: ∃ mc:Int,mc=C:=⟨_,rfl⟩
 have hVM:VM w S (.agg #[Yv Yi R,Yv Yi C, .slice a n c]) {rows:=(R:Int),cols:=(C:Int),cells:=cells}:=⟨a,n,c,rfl,h,by show I64 (R:Int);unfold I64;omega,by show I64 (C:Int);unfold I64;omega⟩
 rw[←hmr, ←hmc] at hVM hB ⊢
 obtain ⟨w3,hw3⟩: ∃ w3,w3=((w.alloc (.cells #[Yv Yi mr,Yv Yi mc, .slice a n c] 28)).alloc (.cells #[Yv Yi 0,Yv Yi 0, .slice none 0 0] 28)).alloc (.cells #[Yv Yi 0,Yv Yi 0, .slice none 0 0] 28):=⟨_,rfl⟩
 have hG:Grow w w3:=by rw[hw3];exact (((Grow.refl w).alloc _ _).alloc _ _).alloc _ _
 have bM:Blk w3 w.heap.size #[Yv Yi mr,Yv Yi mc, .slice a n c] 28:=by rw[hw3];exact ((Blk.new w _ _).alloc _).alloc _
 have bR1:Blk w3 (w.heap.size+1) #[Yv Yi 0,Yv Yi 0, .slice none 0 0] 28:=by rw[hw3];exact (Blk.newAt _ _ _ (by simp)).alloc _
 have bR2:Blk w3 (w.heap.size+1+1) #[Yv Yi 0,Yv Yi 0, .slice none 0 0] 28:=by rw[hw3];exact Blk.newAt _ _ _ (by simp)
 have Hw3:=hid hw3;clear hw3
 subst hmr
 subst hmc
 have HB:=hid hB;clear hB
 go_enter Tryz.func94,Tryz.ntmps94
 go_wp2_with fail
 rw[←Hw3.out]
 refine (ZJ (hVM.grow hG) (by unfold bdM;simp;omega)).mono ?_
 rintro e w4 ⟨rfl,hG4⟩
 rw[HB.out]
 have bM4:=bM.grow hG4
 obtain ⟨⟨a0,a1,a2⟩, -⟩:=bM4.three
 go_wp2_with fail
 refine (Zfy ((hVM.grow hG).grow hG4) (by unfold bdM;simp;omega)).mono ?_
 rintro e w5 ⟨va,rfl,hA,hG5⟩
 obtain ⟨aa,na,ca,rfl,oA,rA,fA,iA1,iA2⟩:=hA
 replace oA:Own w5 3 1 aa na ca (ints cells):=oA
 have hna:na=R*C:=by have:=oA.len;simp at this;omega
 subst hna
 clear iA1 iA2 a0 a1 a2
 have bX:=Blk.new w5 #[Yv Yi (R:Int),Yv Yi (C:Int), .slice aa (R*C) ca] 28
 have hGX:=(Grow.refl w5).alloc #[Yv Yi (R:Int),Yv Yi (C:Int), .slice aa (R*C) ca] 28
 have hG45:=(hG4.trans hG5).trans hGX
 have oA5:=oA.grow hGX
 have bM5:=bM.grow hG45
 obtain ⟨⟨a0,a1,a2⟩, -⟩:=bM5.three
 have hlt5:w.heap.size<w5.heap.size:=(bM4.grow hG5).lt
 have hlR:w.heap.size+1+1<w4.heap.size:=(bR2.grow hG4).lt
 have hs45:=hG5.size
 have fA': ∀ q,blk aa=some q->w.heap.size+1+1<q:=fun q hq=>by have:=(fA q hq).1;omega
 have naX:blk aa≠some w5.heap.size:=fun e=>by have:=oA.lt e;omega
 clear oA bM4 bM fA
 go_wp2_with fail
 refine (Zd4 R _ hR).mono ?_
 rintro e w6 ⟨au,rfl,oU,fU,hG6⟩
 have oA6:=oA5.grow hG6
 have bX6:=bX.grow hG6
 have hs6:=hG6.size
 have hs6':w5.heap.size<w6.heap.size:=by simp at hs6;omega
 have fU': ∀ q,blk au=some q->w5.heap.size<q:=fun q hq=>by have:=fU q hq;simp at this;omega
 have hGU:=(Grow.refl w6).alloc #[Yv Yi (R:Int),Yv Yi (R:Int), .slice au (R*R) (R*R)] 28
 have bU:=Blk.new w6 #[Yv Yi (R:Int),Yv Yi (R:Int), .slice au (R*R) (R*R)] 28
 have hne: ∀ q,blk aa=some q->blk au≠some q:=fun q hq e=>by have:=oA5.lt hq;have:=fU q e;omega
 have nuX:blk au≠some w5.heap.size:=fun e=>by have:=fU' _ e;omega
 have naU:blk aa≠some w6.heap.size:=fun e=>by have:=oA6.lt e;omega
 have nuU:blk au≠some w6.heap.size:=fun e=>by have:=oU.lt e;omega
 have hTwo:Two (w6.alloc (.cells #[Yv Yi (R:Int),Yv Yi (R:Int), .slice au (R*R) (R*R)] 28)) aa au (R*C) (R*R) ca (R*R) (cells,idL R):=⟨oA6.grow hGU,oU.grow hGU,hne⟩
 have hs0:Hs C R (cells,idL R):=⟨hl,Zba R,hnum,Za9 R⟩
 have bX7:=bX6.grow hGU
 obtain ⟨⟨a0,a1,a2⟩, -⟩:=bX7.three
 obtain ⟨⟨b0,b1,b2⟩, -⟩:=bU.three
 clear oA5 oA6 oU fU hGX bX bX6
 go_wp2_with fail
 refine (Zkj aa au ca (R*R) R C (cells,idL R) _ hTwo hs0 hR hC).mono ?_
 rintro e w7 ⟨b,s',rfl,hT7,hK7,hyes,hno⟩
 have hGw:=((hG.trans hG45).trans hG6).trans hGU
 have hG7:Grow w w7:=hGw.keep hK7 (fun q hq=>⟨fun e=>by have:=fA' q e;omega,fun e=>by have:=fU' q e;omega⟩)
 have bRa:=((bR1.grow ((hG45.trans hG6).trans hGU)).keep hK7 ⟨fun e=>by have:=fA' _ e;omega,fun e=>by have:=fU' _ e;omega⟩)
 have bRb:=((bR2.grow ((hG45.trans hG6).trans hGU)).keep hK7 ⟨fun e=>by have:=fA' _ e;omega,fun e=>by have:=fU' _ e;omega⟩)
 replace bX7:=bX7.keep hK7 ⟨naX,nuX⟩
 have bU7:=bU.keep hK7 ⟨naU,nuU⟩
 obtain ⟨⟨a0,a1,a2⟩,f0,f1,f2⟩:=bRa.three
 obtain ⟨⟨b0,b1,b2⟩,g0,g1,g2⟩:=bRb.three
 have hs7:=hG7.size
 clear hG hTwo hs0 hGU bU hG45 hG6 hK7 hGw bR1 bR2
 cases b with
 |false=>
  have Hn:=hid (hno rfl)
  clear hno hyes
  have hG:=hG7
  have bR1:=bRa
  have bR2:=bRb
  go_wp2
  have h1:w.heap.size<=w.heap.size+1:=by omega
  have h2:w.heap.size<=w.heap.size+1+1:=by omega
  refine Zw Za Za rfl rfl rfl rfl ((((((bR1.set 0 _).set 1 _).set 2 _).other (by simp) _).other (by simp) _).other (by simp) _) ((((((bR2.other (by simp) _).other (by simp) _).other (by simp) _).set 0 _).set 1 _).set 2 _) ?_
  exact ⟨(((((hG.setCell h1 _).setCell h1 _).setCell h1 _).setCell h2 _).setCell h2 _).setCell h2 _, .inl ⟨Hn.out,rfl⟩⟩
 |true=>
  have Hy:=hid (hyes rfl)
  clear hyes hno a0 a1 a2 f0 f1 f2 b0 b1 b2 g0 g1 g2
  have n5:w5.heap.size≠w.heap.size+1/\w5.heap.size≠w.heap.size+1+1:=⟨by omega,by omega⟩
  have n6:w6.heap.size≠w.heap.size+1/\w6.heap.size≠w.heap.size+1+1:=⟨by omega,by omega⟩
  go_wp2
  refine Zj (S:=(Keep (fun q=>q≠w.heap.size+1/\q≠w.heap.size+1+1) w7)) [([0,1],some 2),([],some 3),([4],none)] Zn (by kernel_rfl) (fun _ _ _ _ _ h=>h) (Keep.refl _ _).drew ?_
  show wpQuiet _ _ _ _ [_,_] _
  repeat (first |go_big_quiet_skip|(go_big_quiet_want;first |(apply Ze Za;rfl;rfl;exact (fun w' hG=>bX7.keep hG n5);go_big_quiet_on;simp only[putP])|(apply Ze Za;rfl;rfl;exact (fun w' hG=>bU7.keep hG n6);go_big_quiet_on;simp only[putP])|(go_big_quiet_op;first |go_big_quiet_on|(refine ⟨_,(fun _ _=>rfl), ?_⟩;go_big_quiet_on))))
  refine wpQuiet_nil ?_
  obtain ⟨w8,hw8⟩: ∃ w8,w8=w7.drew:=⟨_,rfl⟩
  rw[←hw8]
  have hG8:Grow w7 w8:=by rw[hw8];exact (Grow.refl _).drew
  clear hw8
  have bR8:=bRa.grow hG8
  have bS8:=bRb.grow hG8
  refine Zk rfl (fun K hK=> ?_)
  obtain ⟨⟨a0,a1,a2⟩,f0,f1,f2⟩:=bR8.three
  go_wp2_with fail
  have hK8:Keep (fun q=>q≠w.heap.size+1) w8 (((w8.setCell ⟨w.heap.size+1,0,none⟩ (Yv Yi (R:Int))).setCell ⟨w.heap.size+1,1,none⟩ (Yv Yi (C:Int))).setCell ⟨w.heap.size+1,2,none⟩ (.slice aa (R*C) ca)):=
   (((Keep.refl _ w8).setCell (fun _ e=>e rfl) _).setCell (fun _ e=>e rfl) _).setCell (fun _ e=>e rfl) _
  have bR9:=((bR8.set 0 (Yv Yi (R:Int))).set 1 (Yv Yi (C:Int))).set 2 (.slice aa (R*C) ca)
  have bS9:=bS8.keep hK8 (by omega)
  refine hK _ _ (((hG8.mono fun _ _ _=>trivial).trans (hK8.mono fun q _ hb=>hb.1))) ?_
  clear hK K
  generalize (((w8.setCell ⟨w.heap.size+1,0,none⟩ (Yv Yi (R:Int))).setCell ⟨w.heap.size+1,1,none⟩ (Yv Yi (C:Int))).setCell ⟨w.heap.size+1,2,none⟩ (.slice aa (R*C) ca))=w9 at *
  clear a0 a1 a2 f0 f1 f2
  show wpQuiet _ _ _ _ [] _
  try (conv=>arg 6;simp only[putP])
  refine wpQuiet_nil ?_
  refine Zk rfl (fun K hK=> ?_)
  obtain ⟨⟨b0,b1,b2⟩,g0,g1,g2⟩:=bS9.three
  go_wp2_with fail
  have hK9:Keep (fun q=>q≠w.heap.size+1+1) w9 (((w9.setCell ⟨w.heap.size+1+1,0,none⟩ (Yv Yi (R:Int))).setCell ⟨w.heap.size+1+1,1,none⟩ (Yv Yi (R:Int))).setCell ⟨w.heap.size+1+1,2,none⟩ (.slice au (R*R) (R*R))):=
   (((Keep.refl _ w9).setCell (fun _ e=>e rfl) _).setCell (fun _ e=>e rfl) _).setCell (fun _ e=>e rfl) _
  have bSA:=((bS9.set 0 (Yv Yi (R:Int))).set 1 (Yv Yi (R:Int))).set 2 (.slice au (R*R) (R*R))
  have bRA:=bR9.keep hK9 (by omega)
  refine hK _ _ ((((hG8.mono fun _ _ _=>trivial).trans (hK8.mono fun q _ hb=>hb.1)).trans (hK9.mono fun q _ hb=>hb.2))) ?_
  clear hK K
  show wpQuiet _ _ _ _ [_] _
  try (conv=>arg 6;simp only[putP])
  repeat (first |go_big_quiet_skip|(go_big_quiet_want;first |(apply Ze Za;rfl;rfl;exact (fun w' hG=>bX7.keep hG n5);go_big_quiet_on;simp only[putP])|(apply Ze Za;rfl;rfl;exact (fun w' hG=>bU7.keep hG n6);go_big_quiet_on;simp only[putP])|(go_big_quiet_op;first |go_big_quiet_on|(refine ⟨_,(fun _ _=>rfl), ?_⟩;go_big_quiet_on))))
  refine wpQuiet_nil ?_
  refine Zm ?_
  have hGe:=((hG7.trans hG8).keep hK8 (fun q hq=>by omega)).keep hK9 (fun q hq=>by omega)
  have hTe:=(((hT7.grow hG8).keep hK8 (fun q hq=>by have:=fA' q hq;omega) (fun q hq=>by have:=fU' q hq;omega))).keep hK9 (fun q hq=>by have:=fA' q hq;omega) (fun q hq=>by have:=fU' q hq;omega)
  go_wp2
  have hHs:=ZnD hl hnum Hy.out
  exact Zw Za Za rfl rfl rfl rfl bRA bSA ⟨hGe, .inr ⟨s',aa,ca,au,R*R,Hy.out,rfl,hTe.oa.rdI (fun q hq=>by have:=fA' q hq;omega) (ZC hHs.na),hTe.ou.rdI (fun q hq=>by have:=fU' q hq;omega) (ZC hHs.nu)⟩⟩
theorem addr_add (g j:Nat):(⟨g,0,none⟩:Addr).add j=⟨g,j,none⟩:=by unfold Addr.add;split<;>simp_all
theorem ZfF (a:Option Addr) (n cp C i:Nat) (R:Int) (m:List Int) (w:World) (h:Own w 3 1 a n cp (ints m)) (hi:i*C+C<=n) (hi2:i<=1048575) (hC2:C<=1048576):
  Calls Tryz.prog 138 #[.agg #[Yv Yi R,Yv Yi C, .slice a n cp],Yv Yi i] w fun e w'=> ∃ a1,e= .returned (.slice a1 C (cp-i*C))/\(0<C-> ∃ pb,a=some ⟨pb,0,none⟩/\a1=some ⟨pb,i*C,none⟩)/\Grow w w':=by
 have hle:=h.le
 have u1:=Zab (i:=i) (c:=C) (by omega) hC2
 have u3:IntKind.i64.wrap (((i:Int)+1)*C)=((i:Int)+1)*C:=by
  have:=Zab (i:=i+1) (c:=C) (by omega) hC2
  simpa using this
 have r:=T_ints.atLH (a:=a) (n:=n) (cap:=cp) (l:=i*C) (k:=i*C+C) (i:=(i:Int)*C) (j:=((i:Int)+1)*C) (by simp) (by rw[Int.add_mul];simp) (by omega) (by omega)
 rw[show i*C+C-i*C=C by omega] at r
 have hA:0<C-> ∃ pb,a=some ⟨pb,0,none⟩/\Zdt a cp (i*C) 1=some ⟨pb,i*C,none⟩:=fun hC=>by
  cases a with
  |none=>have:=h.nil rfl;omega
  |some q=>
   have hq:=(h.block q rfl).1
   refine ⟨q.block,by rw[←hq], ?_⟩
   unfold Zdt
   rw[if_neg (by omega),hq,Nat.mul_one]
   exact congrArg some (addr_add q.block (i*C))
 have HA:=hid hA;clear hA
 go_enter Tryz.func138,Tryz.ntmps138
 go_wp2
 go_ret
 exact ⟨_,rfl,HA.out,(Grow.refl w).alloc _ _⟩
theorem ZbM (a:Option Addr) (n cp C i p:Nat) (R t:Int) (m:List Int) (w:World) (h:Own w 3 1 a n cp (ints m)) (hi:i*C+C<=n) (hp:p*C+C<=n) (hip:i≠p) (hm:NumL m) (ht: -400000000<=t/\t<=400000000) (hi2:i<=1000) (hp2:p<=1000) (hC2:C<=1048576):
  Calls Tryz.prog 135 #[.agg #[Yv Yi R,Yv Yi C, .slice a n cp], .agg #[Yv Yi 2,Yv Yi i,Yv Yi p,Yv Yi t]] w fun e w'=> ∃ m',e= .returned (.bool (Zac m C i p t))/\Own w' 3 1 a n cp (ints m')/\Keep (fun q=>blk a≠some q) w w'/\(Zac m C i p t=true->m'=addR m C i p t):=by
 obtain ⟨kd,hkd⟩: ∃ kd:Int,kd=2:=⟨_,rfl⟩
 rw[←hkd]
 have hl:m.length=n:=by simpa using h.len
 obtain ⟨w2,hw2⟩: ∃ w2,w2=(w.alloc (.cells #[Yv Yi R,Yv Yi (C:Int), .slice a n cp] 28)).alloc (.cells #[Yv Yi kd,Yv Yi (i:Int),Yv Yi (p:Int),Yv Yi t] 131):=⟨_,rfl⟩
 have hG2:Grow w w2:=by rw[hw2];exact ((Grow.refl w).alloc _ _).alloc _ _
 have bM:Blk w2 w.heap.size #[Yv Yi R,Yv Yi (C:Int), .slice a n cp] 28:=by rw[hw2];exact (Blk.new w _ _).alloc _
 have bX:Blk w2 (w.heap.size+1) #[Yv Yi kd,Yv Yi (i:Int),Yv Yi (p:Int),Yv Yi t] 131:=by rw[hw2];exact Blk.newAt _ _ _ (by simp)
 have hO0:Own w2 3 1 a n cp (ints m):=h.grow hG2
 have nX:blk a≠some (w.heap.size+1):=fun e=>by have:=h.lt e;omega
 have Hw2:=hid hw2;clear hw2
 have hlow: ∀ q,blk a=some q->q<w.heap.size:=fun q hq=>h.lt hq
 clear h
 subst hkd
 go_enter Tryz.func135,Tryz.ntmps135
 go_wp2_with fail
 rw[←Hw2.out]
 refine (ZfF a n cp C i R m _ hO0 hi (by omega) hC2).mono ?_
 rintro e w3 ⟨a1,rfl,hA1,hG3⟩
 have hO3:=hO0.grow hG3
 have bX3:=bX.grow hG3
 have bM3:=bM.grow hG3
 obtain ⟨⟨m0,m1,m2⟩, -⟩:=bM3.three
 have x0:=bX3.cell 0
 have x1:=bX3.cell 1
 have x2:=bX3.cell 2
 have x3:=bX3.cell 3
 simp only[List.getElem?_toArray,List.getElem?_cons_zero,List.getElem?_cons_succ] at x0 x1 x2 x3
 go_wp2_with fail
 refine (ZfF a n cp C p R m _ hO3 hp (by omega) hC2).mono ?_
 rintro e w4 ⟨b1,rfl,hB1,hG4⟩
 have hO4:=hO3.grow hG4
 have bX4:=bX3.grow hG4
 have hG24:=(hG2.trans hG3).trans hG4
 clear x0 x1 x2 x3 m0 m1 m2 bM3 bX3 hO3 hO0 bM bX
 go_wp2
 go_loopw [19] (fun q wr=>Keep (fun q=>blk a≠some q) w4 wr/\ ∃ k:Nat,k<=C/\q=Yv Yi k/\Own wr 3 1 a n cp (ints (ZW (Zbo m C i p t) (i*C) k m))/\ ∀ k',k'<k->Zq (cell m C p k'*t)=true/\Zq (Zbo m C i p t k')=true) (fun q _=>C-(intOf q).toNat)
 case atStart=>exact ⟨Keep.refl _ _,0,Nat.zero_le _,rfl,hO4,fun k' h=>by omega⟩
 case round=>
  clear hO4
  obtain ⟨hK,k,hk,rfl,hO,hall⟩:=hrel
  have Hall:=hid hall;clear hall
  by_cases hlt:k<C
  ·have bXr:=bX4.keep hK nX
   have x0:=bXr.cell 0
   have x3:=bXr.cell 3
   simp only[List.getElem?_toArray,List.getElem?_cons_zero,List.getElem?_cons_succ] at x0 x3
   have hltX:=bXr.lt
   have hlen:(ZW (Zbo m C i p t) (i*C) k m).length=n:=by rw[Z5,hl]
   have hg1:(ZW (Zbo m C i p t) (i*C) k m).getD (i*C+k) 0=cell m C i k:=by rw[Za4 (by omega),if_neg (by omega)];rfl
   have hg2:(ZW (Zbo m C i p t) (i*C) k m).getD (p*C+k) 0=cell m C p k:=by
    rw[Za4 (by omega),if_neg];rfl
    rintro ⟨h1,h2⟩
    have:=ZbV (i:=i) (i':=p) (j:=p*C+k-i*C) (j':=k) (C:=C) (by omega) hlt (by omega)
    exact hip this.1
   obtain ⟨pb,rfl,rfl⟩:=hA1 (by omega)
   obtain ⟨pb',hpb',rfl⟩:=hB1 (by omega)
   obtain rfl:pb=pb':=by simpa using hpb'
   have hc1:=hO.cell (ZaH (by omega) hg1)
   have hc2:=hO.cell (ZaH (by omega) hg2)
   have hfr:=hO.free (i*C+k)
   have hpb:=hO.lt (g:=pb) rfl
   have hsA:=Zt hm C i k
   have hsB:=Zt hm C p k
   have hmul:=Zfp hsB ht
   have hO9: ∀ N,Own ((wr.drewN N).setCell ⟨pb,i*C+k,none⟩ (Yv Yi (Zbo m C i p t k))) 3 1 (some ⟨pb,0,none⟩) n cp (ints (ZW (Zbo m C i p t) (i*C) (k+1) m)):=fun N=>by
    have:=(hO.grow ((Grow.refl wr).drewN N)).set (i*C+k) (Yv Yi (Zbo m C i p t k))
    rw[←ints_set] at this
    exact this
   have hKs: ∀ N,Keep (fun q=>blk (some (⟨pb,0,none⟩:Addr))≠some q) wr ((wr.drewN N).setCell ⟨pb,i*C+k,none⟩ (Yv Yi (Zbo m C i p t k))):=fun N=>((Keep.refl _ wr).drewN N).setCell (p:=⟨pb,i*C+k,none⟩) (fun _ e=>e rfl) _
   have Hv:=hid (show Zbo m C i p t k=cell m C i k+cell m C p k*t from rfl)
   have Hno:=hid (fun hno: ¬ (Zq (cell m C p k*t)=true/\Zq (Zbo m C i p t k)=true)=>(show Zac m C i p t=false by
    rw[Bool.eq_false_iff];intro e
    exact hno (Zce.1 e k hlt)))
   clear hO hg1 hg2 hlen hA1 hB1 hpb'
   simp only at hc1 hc2 hfr
   have u5:IntKind.i64.wrap (cell m C p k*t)=cell m C p k*t:=IntWalk.i64_in _ (by omega)
   have u6:wrap64 (cell m C p k*t)=cell m C p k*t:=by unfold wrap64;omega
   have u7:IntKind.i64.wrap (cell m C i k+cell m C p k*t)=cell m C i k+cell m C p k*t:=IntWalk.i64_in _ (by omega)
   generalize cell m C i k=ca at *
   generalize hcb:cell m C p k=cb at *
   have Hcb:=hid hcb
   clear hcb
   rw[Hv.out] at hO9 hKs Hno
   go_wp2
   go_quiet (fail)
   go_wp2_with fail
   refine (Zaq _ _).mono ?_
   rintro e _ ⟨rfl,rfl⟩
   cases hn1:Zq (cb*t) with
   |false=>
    have HF:=hid (Hno.out (fun h=>by rw[hn1] at h;cases h.1))
    go_wp2
    go_ret
    exact ⟨_,by rw[HF.out];rfl,hO9 _,(hG24.any.trans hK).trans (hKs _),fun h=>by rw[HF.out] at h;cases h⟩
   |true=>
    go_wp2_with fail
    refine (Zaq _ _).mono ?_
    rintro e _ ⟨rfl,rfl⟩
    cases hn2:Zq (ca+cb*t) with
    |false=>
     have HF:=hid (Hno.out (fun h=>by rw[hn2] at h;cases h.2))
     go_wp2
     go_ret
     exact ⟨_,by rw[HF.out];rfl,hO9 _,(hG24.any.trans hK).trans (hKs _),fun h=>by rw[HF.out] at h;cases h⟩
    |true=>
     have Hst:=hid (show ∀ k',k'<k+1->Zq (cell m C p k'*t)=true/\Zq (Zbo m C i p t k')=true from fun k' hk'=>by
      by_cases e:k'=k
      ·subst e;rw[Hv.out,Hcb.out];exact ⟨hn1,hn2⟩
      ·exact Hall.out k' (by omega))
     go_wp2
     go_roundw
     case rel=>exact ⟨hK.trans (hKs _),k+1,by omega,by go_num,hO9 _,Hst.out⟩
     case measure=>simp[intOf];omega
  ·have hkC:k=C:=by omega
   subst hkC
   have HT:=hid (Zce.2 Hall.out)
   go_wp2
   go_ret
   exact ⟨_,by rw[HT.out];rfl,hO,hG24.any.trans hK,fun _=>rfl⟩
theorem Zcp (a:Option Addr) (n cp C i p R:Nat) (t:Int) (m:List Int) (w:World) (h:Own w 3 1 a n cp (ints m)) (hmR:m.length=R*C) (hiR:i<R) (hpR:p<R) (hip:i≠p) (hi2:i<=1000) (hp2:p<=1000) (hC2:C<=1048576):
  Calls Tryz.prog 135 #[.agg #[Yv Yi (R:Int),Yv Yi C, .slice a n cp], .agg #[Yv Yi 0,Yv Yi i,Yv Yi p,Yv Yi t]] w fun e w'=>e= .returned (.bool true)/\Own w' 3 1 a n cp (ints (swR m C i p))/\Keep (fun q=>blk a≠some q) w w':=by
 have hi:=Zc0 hmR hiR
 have hp:=Zc0 hmR hpR
 rw[show m.length=n by simpa using h.len] at hi hp
 obtain ⟨kd,hkd⟩: ∃ kd:Int,kd=0:=⟨_,rfl⟩
 rw[←hkd]
 have hl:m.length=n:=by simpa using h.len
 obtain ⟨w2,hw2⟩: ∃ w2,w2=(w.alloc (.cells #[Yv Yi (R:Int),Yv Yi (C:Int), .slice a n cp] 28)).alloc (.cells #[Yv Yi kd,Yv Yi (i:Int),Yv Yi (p:Int),Yv Yi t] 131):=⟨_,rfl⟩
 have hG2:Grow w w2:=by rw[hw2];exact ((Grow.refl w).alloc _ _).alloc _ _
 have bM:Blk w2 w.heap.size #[Yv Yi (R:Int),Yv Yi (C:Int), .slice a n cp] 28:=by rw[hw2];exact (Blk.new w _ _).alloc _
 have bX:Blk w2 (w.heap.size+1) #[Yv Yi kd,Yv Yi (i:Int),Yv Yi (p:Int),Yv Yi t] 131:=by rw[hw2];exact Blk.newAt _ _ _ (by simp)
 have hO0:Own w2 3 1 a n cp (ints m):=h.grow hG2
 have nX:blk a≠some (w.heap.size+1):=fun e=>by have:=h.lt e;omega
 have Hw2:=hid hw2;clear hw2
 have hlow: ∀ q,blk a=some q->q<w.heap.size:=fun q hq=>h.lt hq
 clear h
 subst hkd
 go_enter Tryz.func135,Tryz.ntmps135
 go_wp2_with fail
 rw[←Hw2.out]
 refine (ZfF a n cp C i (R:Int) m _ hO0 hi (by omega) hC2).mono ?_
 rintro e w3 ⟨a1,rfl,hA1,hG3⟩
 have hO3:=hO0.grow hG3
 have bX3:=bX.grow hG3
 have bM3:=bM.grow hG3
 obtain ⟨⟨m0,m1,m2⟩, -⟩:=bM3.three
 have x0:=bX3.cell 0
 have x1:=bX3.cell 1
 have x2:=bX3.cell 2
 have x3:=bX3.cell 3
 simp only[List.getElem?_toArray,List.getElem?_cons_zero,List.getElem?_cons_succ] at x0 x1 x2 x3
 go_wp2_with fail
 refine (ZfF a n cp C p (R:Int) m _ hO3 hp (by omega) hC2).mono ?_
 rintro e w4 ⟨b1,rfl,hB1,hG4⟩
 have hO4:=hO3.grow hG4
 have bX4:=bX3.grow hG4
 have hG24:=(hG2.trans hG3).trans hG4
 clear x0 x1 x2 x3 m0 m1 m2 bM3 bX3 hO3 hO0 bM bX
 go_wp2
 go_loopw [19] (fun q wr=>Keep (fun q=>blk a≠some q) w4 wr/\ ∃ k:Nat,k<=C/\q=Yv Yi k/\Own wr 3 1 a n cp (ints (swN m C i p k))) (fun q _=>C-(intOf q).toNat)
 case atStart=>exact ⟨Keep.refl _ _,0,Nat.zero_le _,rfl,hO4⟩
 case round=>
  clear hO4
  obtain ⟨hK,k,hk,rfl,hO⟩:=hrel
  by_cases hlt:k<C
  ·have bXr:=bX4.keep hK nX
   have x0:=bXr.cell 0
   simp only[List.getElem?_toArray,List.getElem?_cons_zero] at x0
   have hltX:=bXr.lt
   have hlen:(swN m C i p k).length=n:=by rw[ZbL,hl]
   have hg1:(swN m C i p k).getD (i*C+k) 0=cell m C i k:=by rw[ZdA hmR hiR hpR hip k (by omega) i k hlt,if_neg (by omega),if_neg (by omega)]
   have hg2:(swN m C i p k).getD (p*C+k) 0=cell m C p k:=by rw[ZdA hmR hiR hpR hip k (by omega) p k hlt,if_neg (by omega),if_neg (by omega)]
   obtain ⟨pb,rfl,rfl⟩:=hA1 (by omega)
   obtain ⟨pb',hpb',rfl⟩:=hB1 (by omega)
   obtain rfl:pb=pb':=by simpa using hpb'
   have hc1:=hO.cell (ZaH (by omega) hg1)
   have hc2:=hO.cell (ZaH (by omega) hg2)
   have hfr:=hO.free (i*C+k)
   have hfr2:=hO.free (p*C+k)
   have hpb:=hO.lt (g:=pb) rfl
   have hcx:i*C+k≠p*C+k:=fun e=>hip (ZbV hlt hlt e).1
   have hO9:=((hO.set (i*C+k) (Yv Yi (cell m C p k))).set (p*C+k) (Yv Yi (cell m C i k))).grow (Grow.refl _).drew
   rw[←ints_set, ←ints_set] at hO9
   have Hu:=hid (show swN m C i p (k+1)=((swN m C i p k).set (i*C+k) (cell m C p k)).set (p*C+k) (cell m C i k) from rfl)
   have hKs:Keep (fun q=>blk (some (⟨pb,0,none⟩:Addr))≠some q) wr ((wr.setCell ⟨pb,i*C+k,none⟩ (Yv Yi (cell m C p k))).setCell ⟨pb,p*C+k,none⟩ (Yv Yi (cell m C i k))).drew:=(((Keep.refl _ wr).setCell (p:=⟨pb,i*C+k,none⟩) (fun _ e=>e rfl) _).setCell (p:=⟨pb,p*C+k,none⟩) (fun _ e=>e rfl) _).drew
   clear hO hg1 hg2 hlen hA1 hB1 hpb'
   generalize cell m C i k=ca at hc1 hO9 Hu hKs
   generalize cell m C p k=cb at hc2 hO9 Hu hKs
   simp only at hc1 hc2 hfr hfr2
   go_wp2
   go_region
   go_wp2
   go_roundw
   case rel=>exact ⟨hK.trans hKs,k+1,by omega,by go_num,by rw[Hu.out];exact hO9⟩
   case measure=>simp[intOf];omega
  ·have hkC:k=C:=by omega
   subst hkC
   go_wp2
   go_ret
   exact ⟨rfl,hO,hG24.any.trans hK⟩
theorem ZhM (a:Option Addr) (n cp C i R:Nat) (t:Int) (m:List Int) (w:World) (h:Own w 3 1 a n cp (ints m)) (hmR:m.length=R*C) (hiR:i<R) (hm:NumL m) (hi2:i<=1000) (hC2:C<=1048576):
  Calls Tryz.prog 135 #[.agg #[Yv Yi (R:Int),Yv Yi C, .slice a n cp], .agg #[Yv Yi 1,Yv Yi i,Yv Yi i,Yv Yi t]] w fun e w'=>e= .returned (.bool true)/\Own w' 3 1 a n cp (ints (ZcS m C i))/\Keep (fun q=>blk a≠some q) w w':=by
 have hi:=Zc0 hmR hiR
 rw[show m.length=n by simpa using h.len] at hi
 obtain ⟨kd,hkd⟩: ∃ kd:Int,kd=1:=⟨_,rfl⟩
 rw[←hkd]
 have hl:m.length=n:=by simpa using h.len
 obtain ⟨w2,hw2⟩: ∃ w2,w2=(w.alloc (.cells #[Yv Yi (R:Int),Yv Yi (C:Int), .slice a n cp] 28)).alloc (.cells #[Yv Yi kd,Yv Yi (i:Int),Yv Yi (i:Int),Yv Yi t] 131):=⟨_,rfl⟩
 have hG2:Grow w w2:=by rw[hw2];exact ((Grow.refl w).alloc _ _).alloc _ _
 have bM:Blk w2 w.heap.size #[Yv Yi (R:Int),Yv Yi (C:Int), .slice a n cp] 28:=by rw[hw2];exact (Blk.new w _ _).alloc _
 have bX:Blk w2 (w.heap.size+1) #[Yv Yi kd,Yv Yi (i:Int),Yv Yi (i:Int),Yv Yi t] 131:=by rw[hw2];exact Blk.newAt _ _ _ (by simp)
 have hO0:Own w2 3 1 a n cp (ints m):=h.grow hG2
 have nX:blk a≠some (w.heap.size+1):=fun e=>by have:=h.lt e;omega
 have Hw2:=hid hw2;clear hw2
 have hlow: ∀ q,blk a=some q->q<w.heap.size:=fun q hq=>h.lt hq
 clear h
 subst hkd
 go_enter Tryz.func135,Tryz.ntmps135
 go_wp2_with fail
 rw[←Hw2.out]
 refine (ZfF a n cp C i (R:Int) m _ hO0 hi (by omega) hC2).mono ?_
 rintro e w3 ⟨a1,rfl,hA1,hG3⟩
 have hO3:=hO0.grow hG3
 have bX3:=bX.grow hG3
 have bM3:=bM.grow hG3
 obtain ⟨⟨m0,m1,m2⟩, -⟩:=bM3.three
 have x0:=bX3.cell 0
 have x1:=bX3.cell 1
 have x2:=bX3.cell 2
 have x3:=bX3.cell 3
 simp only[List.getElem?_toArray,List.getElem?_cons_zero,List.getElem?_cons_succ] at x0 x1 x2 x3
 go_wp2_with fail
 refine (ZfF a n cp C i (R:Int) m _ hO3 hi (by omega) hC2).mono ?_
 rintro e w4 ⟨b1,rfl,hB1,hG4⟩
 have hO4:=hO3.grow hG4
 have bX4:=bX3.grow hG4
 have hG24:=(hG2.trans hG3).trans hG4
 clear x0 x1 x2 x3 m0 m1 m2 bM3 bX3 hO3 hO0 bM bX
 go_wp2
 go_loopw [19] (fun q wr=>Keep (fun q=>blk a≠some q) w4 wr/\ ∃ k:Nat,k<=C/\q=Yv Yi k/\Own wr 3 1 a n cp (ints (ZW (fun k=> -cell m C i k) (i*C) k m))) (fun q _=>C-(intOf q).toNat)
 case atStart=>exact ⟨Keep.refl _ _,0,Nat.zero_le _,rfl,hO4⟩
 case round=>
  clear hO4
  obtain ⟨hK,k,hk,rfl,hO⟩:=hrel
  by_cases hlt:k<C
  ·have bXr:=bX4.keep hK nX
   have x0:=bXr.cell 0
   simp only[List.getElem?_toArray,List.getElem?_cons_zero] at x0
   have hltX:=bXr.lt
   have hlen:(ZW (fun k=> -cell m C i k) (i*C) k m).length=n:=by rw[Z5,hl]
   have hg1:(ZW (fun k=> -cell m C i k) (i*C) k m).getD (i*C+k) 0=cell m C i k:=by rw[Za4 (by omega),if_neg (by omega)];rfl
   obtain ⟨pb,rfl,rfl⟩:=hA1 (by omega)
   have hc1:=hO.cell (ZaH (by omega) hg1)
   have hfr:=hO.free (i*C+k)
   have hpb:=hO.lt (g:=pb) rfl
   have hsA:=Zt hm C i k
   have hO9:=hO.set (i*C+k) (Yv Yi (-cell m C i k))
   rw[←ints_set] at hO9
   have Hu:=hid (show ZW (fun k=> -cell m C i k) (i*C) (k+1) m=(ZW (fun k=> -cell m C i k) (i*C) k m).set (i*C+k) (-cell m C i k) from rfl)
   have hKs:Keep (fun q=>blk (some (⟨pb,0,none⟩:Addr))≠some q) wr (wr.setCell ⟨pb,i*C+k,none⟩ (Yv Yi (-cell m C i k))):=(Keep.refl _ wr).setCell (p:=⟨pb,i*C+k,none⟩) (fun _ e=>e rfl) _
   clear hO hg1 hlen hA1 hB1
   generalize hca:cell m C i k=ca at hc1 hsA hO9 Hu hKs
   clear hca
   simp only at hc1 hfr
   go_wp2
   go_roundw
   case rel=>exact ⟨hK.trans hKs,k+1,by omega,by go_num,by rw[Hu.out];exact hO9⟩
   case measure=>simp[intOf];omega
  ·have hkC:k=C:=by omega
   subst hkC
   go_wp2
   go_ret
   exact ⟨rfl,hO,hG24.any.trans hK⟩

end Go.Proofs.YtgeoehnbpkediaaGreat
