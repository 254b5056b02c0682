/- Equations over the whole numbers: the program's SolveInteger ends, and what it returns can be read. -/
import Derived.Test.YtjpcgofidijigaaGreatDoorZFacI
import Derived.Test.YtjpcgofidijigaaGreatDoorZRatI
set_option maxHeartbeats 8000000
set_option maxRecDepth 100000
namespace Go.Proofs.YtjpcgofidijigaaGreatDoor
open Go.RowKit
open Lib (hid)
open Go.Value renaming int->Yv
open Go.IntKind renaming i64->Yi
variable {w:World}
theorem ZlC {g:Nat} (hg:g=w.heap.size):RdI (w.alloc (.cells #[] 3)) (fun _=>True) (some ⟨g,0,none⟩) 0 0 []:=
 (show Own (w.alloc (.cells #[] 3)) 3 1 (some ⟨g,0,none⟩) 0 0 (ints []) from Own.freshAt hg (by unfold maxLen;omega) rfl).rdI (fun _ _=>trivial) fun x hx=>by cases hx
theorem ZnR {S T:Nat->Prop} {m:Mat} {a xa:Option Addr} {n c xn xc:Nat} {bs:List Int} (h:RdI w S a n c m.cells) (hr:I64 m.rows) (hc:I64 m.cols) (hb:m.cells.length<=1048576) (hX:RdI w T xa xn xc bs) (hxn:xn<=1048576):
  Calls Tryz.prog 48 #[.agg #[Yv Yi m.rows,Yv Yi m.cols, .slice a n c], .slice xa xn xc] w fun e w'=> ∃ ya yn yc ys code,e= .returned (.tuple #[.slice ya yn yc,Yv Yi code])/\RdI w' (fun _=>True) ya yn yc ys/\yn<=576/\Grow w w':=by
 obtain ⟨w1,hw1,hG1,bM, -⟩:=al1 w #[Yv Yi m.rows,Yv Yi m.cols, .slice a n c] 34;obtain ⟨⟨m0,m1,m2⟩, -⟩:=bM.three;have hltM:=bM.lt;rw[hw1] at m0 m1 m2 hltM;have Hw1:=hid hw1;have hm:=h.grow hG1;have hx:=hX.grow hG1;clear hw1 h hX;go_enter Tryz.func48,Tryz.ntmps48;go_wp2_with fail;rw[←Hw1.out];clear m0 m1 m2 hltM;refine (ZnV hm hr hc hb hx hxn).mono ?_;rintro e w2 ⟨d1,d2,da,dn,dc,u1,u2,ua,un,uc,v1,v2,va,vn,vc,ca,cn,cc,ok,rfl,hP,hG2⟩;obtain ⟨w3,hw3,hG3,bD, -,bV, -⟩:=al3 w2 #[Yv Yi d1,Yv Yi d2, .slice da dn dc] 34 #[Yv Yi u1,Yv Yi u2, .slice ua un uc] 34 #[Yv Yi v1,Yv Yi v2, .slice va vn vc] 34;have hG23:=(hG1.trans hG2).trans hG3;cases ok with
 |false=>
  clear hP hm hx;go_wp2;rw[←hw3]
  go_ret2
  exact ⟨_,0,0,[],2,rfl,ZlC (by rw[hw3];simp),by omega,hG23.alloc _ _⟩
 |true=>
  obtain ⟨R,C,D,V,cs,hmr,hmc,hR,hC,rfl,rfl,rfl,rfl,rD,lD,nD,rV,lV,nV,rC,nC,lC⟩:=hP rfl;have hcn:cn=R:=by rw[←rC.len];exact lC
  subst hcn;obtain ⟨⟨m0,m1,m2⟩, -⟩:=bD.three;have hltD:=bD.lt;rw[hw3] at m0 m1 m2 hltD;go_wp2_with fail;rw[←hw3];have Hw3:=hid hw3;clear m0 m1 m2 hltD hw3;refine (Zmh (S:=fun _=>True) (T:=fun _=>True) da ca dn dc cn C cn cc D cs _ (rD.grow hG3) lD nD hR hC (rC.grow hG3) (by omega)).mono ?_;rintro e w4 ⟨k,rfl,hG4⟩;have hG24:=hG23.trans hG4;by_cases hk:0<=k
  ·have q1:decide (0<=k)=true:=decide_eq_true hk;clear hk;go_wp2
   go_ret2
   exact ⟨_,0,0,[],1,rfl,ZlC rfl,by omega,hG24.alloc _ _⟩
  ·have q1:decide (0<=k)=false:=decide_eq_false hk;clear hk;have bMr:=((bM.grow hG2).grow hG3).grow hG4;obtain ⟨⟨m0,m1,m2⟩, -⟩:=bMr.three;have hltM:=bMr.lt;rw[hmc] at m1;have hmk:=T_ints.make (n:=C) (by omega) (by unfold maxLen;omega);obtain ⟨w5,hw5,hG5, -, -⟩:=al1 w4 (madeCells #[Yv Yi 0] C) 3;have oY:Own w5 3 1 (some ⟨w4.heap.size,0,none⟩) C C (ints (List.replicate C 0)):=(by have:=Own.freshAt (w:=w4) (e:=3) (sz:=1) (cs:=madeCells #[Yv Yi 0] (C*1)) (n:=C) rfl (by unfold maxLen;omega) (by simp[madeCells]);rw[ZfN,Nat.mul_one] at this;rw[hw5];exact this);have hG25:=hG24.trans hG5;have bD5:=(bD.grow hG4).grow hG5;have bV5:=(bV.grow hG4).grow hG5;have rD5:=(((rD.grow hG3).grow hG4).grow hG5);have rC5:=(((rC.grow hG3).grow hG4).grow hG5);have Hw5:=hid hw5;clear hw5;go_wp2;rw[←Hw5.out];go_loopw [38] (fun i wr=>Grow w4 wr/\ ∃ (j:Nat) (ys:List Int),j<=C/\i=Yv Yi j/\ys.length=C/\NumL ys/\Own wr 3 1 (some ⟨w4.heap.size,0,none⟩) C C (ints ys)) (fun i _=>C-(intOf i).toNat);case atStart=>exact ⟨hG5,0,_,Nat.zero_le _,rfl,by simp,(fun x hx=>by have:=List.eq_of_mem_replicate hx;omega),oY⟩
   case round=>
    obtain ⟨hG,j,ys,hj,rfl,hyl,nY,oYr⟩:=hrel;have hG4r:=hG24.trans hG;by_cases hlt:j<C
    ·have bDr:=(bD.grow hG4).grow hG;obtain ⟨⟨x0,x1,x2⟩, -⟩:=bDr.three;have hlD:=bDr.lt;have rDr:=((rD.grow hG3).grow hG4).grow hG;have rCr:=((rC.grow hG3).grow hG4).grow hG;go_wp2_with fail;refine (ZkB da dn dc cn C j D _ rDr lD nD hR hC).mono ?_;rintro e w6 ⟨y,rfl,hy,hyR,hG6⟩;have hGw:=hG.trans hG6;have oY6:=oYr.grow hG6;clear x0 x1 x2 hlD rDr bDr;by_cases hy0:y=0
     ·have q2:(y !=0)=false:=(by simp[hy0]);clear hy0;go_wp2;go_roundw;case rel=>exact ⟨hGw,j+1,ys,by omega,by go_num,hyl,nY,oY6⟩
      case measure=>simp[intOf];omega
     ·have q2:(y !=0)=true:=(by simp[hy0]);obtain ⟨b2,off,x,rfl,hx',hxr,_,hbw,hcx⟩:=(rCr.grow hG6).at (hyR hy0);have hxn:=nC x (List.mem_of_getElem? hx');have htd:=Zco x y;have hcy:=oY6.cell (Zbg (xs:=ys) (j:=j) (by omega) (rfl:ys.getD j 0=ys.getD j 0));have hfr:=oY6.free j;have hly:=oY6.lt (g:=w4.heap.size) rfl;have hle:=oY6.le;have u1:wrap64 (x.tdiv y)=x.tdiv y:=ZX (by omega);have u2:IntKind.i64.wrap (x.tdiv y)=x.tdiv y:=IntWalk.i64_in _ (by omega);have nY':NumL (ys.set j (x.tdiv y)):=fun z hz=>by
       rcases List.mem_or_eq_of_mem_set hz with hz|rfl
       ·exact nY z hz
       ·omega
      have oY7:=oY6.set j (Yv Yi (x.tdiv y));rw[←ints_set] at oY7;have hG7:=hGw.setCell (p:=⟨w4.heap.size,j,none⟩) (Nat.le_refl _) (Yv Yi (x.tdiv y));simp only at hcy hfr;clear hx' rCr hxr;go_wp2;go_roundw;case rel=>exact ⟨hG7,j+1,ys.set j (x.tdiv y),by omega,by go_num,by simp[hyl],nY',oY7⟩
      case measure=>simp[intOf];omega
    ·obtain rfl:j=C:=(by omega);have bVr:=(bV.grow hG4).grow hG;have vA:VM wr (fun _=>True) (.agg #[Yv Yi (j:Int),Yv Yi (j:Int), .slice va vn vc]) {rows:=(j:Int),cols:=(j:Int),cells:=V}:=⟨va,vn,vc,rfl,((rV.grow hG3).grow hG4).grow hG,by show I64 (j:Int);unfold I64;omega,by show I64 (j:Int);unfold I64;omega⟩;have hVV:j*j<=24*24:=Nat.mul_le_mul hC hC;have hbA:bdM {rows:=(j:Int),cols:=(j:Int),cells:=V}<=2097152:=(by unfold bdM;simp only;omega);have rX:=oYr.rdI (S:=fun _=>True) (fun _ _=>trivial) (Zy nY);have hvn:=rV.len;obtain ⟨wb,rfl⟩: ∃ z,z=wr:=⟨_,rfl⟩;obtain ⟨xs,rfl⟩: ∃ z,z=ys:=⟨_,rfl⟩;have hG4b:=hG4r;clear hG4r hm hx oYr rD rC rV nC nD oY bD5 bV5 rD5 rC5 hG25 bMr m0 m1 m2 hltM;have b2:=bVr;go_wp2;have hbX:bdM (ZeV xs)<=2097152:=(by show xs.length<=_;omega);obtain ⟨X,hX⟩: ∃ X,X=ZeV xs:=⟨_,rfl⟩;rw[←hX] at hbX;have HX:=hid hX;clear hX;refine Zam (S:=Grow wb) (T:=fun _=>True) [0,1] [2,3,7] [4,5,6] [([],some 8),([9],none)] Zm (by kernel_rfl) (fun _ _ _ _ _ h=>h) (Grow.refl _).drew ?_;show wpQuiet _ _ _ _ [_,_] _;(repeat (first |(go_big_quiet_want;refine Zh Zc rfl rfl (fun w' hG=>b2.grow hG) ?_;go_big_quiet_on;simp only[putP])|go_big_quiet_step (exact fun _=>rfl)));refine wpQuiet_nil ?_;refine ⟨by kernel_rfl,ColPost wb.heap.size {rows:=(j:Int),cols:=(j:Int),cells:=V} X,fun _ _=>none,ColPost.stays,(fun _ _ _ _ _ h=>by cases h),(fun _ _ _=>rfl), ?_, ?_, ?_⟩
     ·intro i hi o ho b wi hGw hSw hdep hfr K hK;have t27:b.tmps.getD 57 undef= .agg #[Yv Yi (j:Int),Yv Yi (j:Int), .slice va vn vc]:=hfr 57 (by decide);have t28:b.tmps.getD 58 undef= .slice (some ⟨w4.heap.size,0,none⟩) j j:=hfr 58 (by decide);have hs2:=hSw.size;simp only[List.mem_cons,List.not_mem_nil,or_false] at hi;rcases hi with rfl|rfl|rfl
      ·obtain rfl:=Option.some.inj (show some _=some _ from ho);refine Zfr (x:= .tmp 58) rfl Tryz.func89 rfl rfl t28 ?_;refine (Zf4 _ _ _ xs _ (rX.grow hSw) (by omega)).mono ?_;rintro e wi ⟨y,rfl,hO,hG3⟩;exact ⟨y,rfl,hK y wi hG3 (hSw.trans hG3) (by rw[←HX.out] at hO;exact hO.weak fun b _ hb=>Nat.le_trans hs2 hb.1) (fun _ h=>by cases h)⟩
      ·obtain rfl:=Option.some.inj (show some _=some _ from ho);have d1:OM wi (fun g=>wb.heap.size<=g) (b.tmps.getD 59 undef) X:=hdep 2 (by decide) ⟨⟨2, .data⟩,by simp,rfl,rfl⟩ 59 rfl;refine Zba (x:= .tmp 57) (y:= .tmp 59) rfl Tryz.func88 rfl rfl t27 rfl ?_;refine (Zcl (vA.grow hSw) (d1.rd (S:=fun _=>True) fun _ _=>trivial) hbA hbX).mono ?_;rintro e wi ⟨y,rfl,hO,hG3⟩;exact ⟨_,rfl,hK _ wi hG3 (hSw.trans hG3) ⟨y,rfl,hO.weak fun b _ hb=>Nat.le_trans hs2 hb.1⟩ (fun _ h=>by cases h)⟩
      ·obtain rfl:=Option.some.inj (show some _=some _ from ho);refine Zbn (z:= .agg #[Yv Yi 0,Yv Yi 0, .slice none 0 0]) rfl (by rfl) ?_;exact hK _ _ ((Grow.refl _).alloc _ _) (hSw.alloc _ _) ⟨wi.heap.size,rfl,hs2,Blk.new _ _ _⟩ (fun _ h=>by cases h)
     ·intro i hi o ho b wi hGw hSw hdep hfr;simp only[List.mem_cons,List.not_mem_nil,or_false] at hi;rcases hi with rfl|rfl|rfl
      ·obtain rfl:=Option.some.inj (show some _=some _ from ho);have d3: ∃ y,b.tmps.getD 60 undef= .tuple #[y, .bool (ZB {rows:=(j:Int),cols:=(j:Int),cells:=V} X)]/\OM wi (fun g=>wb.heap.size<=g) y (Zu {rows:=(j:Int),cols:=(j:Int),cells:=V} X):=hdep 3 (by decide) ⟨⟨3, .data⟩,by simp,rfl,rfl⟩ 60 rfl;exact ⟨b.tmps.getD 60 undef,fun _ _=>rfl,d3⟩
      ·obtain rfl:=Option.some.inj (show some _=some _ from ho);obtain ⟨y,e4,hO⟩: ∃ y,b.tmps.getD 56 undef= .tuple #[y, .bool (ZB {rows:=(j:Int),cols:=(j:Int),cells:=V} X)]/\OM wi (fun g=>wb.heap.size<=g) y (Zu {rows:=(j:Int),cols:=(j:Int),cells:=V} X):=hdep 4 (by decide) ⟨⟨4, .data⟩,by simp,rfl,rfl⟩ 56 rfl;exact ⟨y,fun w' _=>ZP (x:= .tmp 56) rfl e4 rfl w',hO⟩
      ·obtain rfl:=Option.some.inj (show some _=some _ from ho);obtain ⟨y,e4,hO⟩: ∃ y,b.tmps.getD 56 undef= .tuple #[y, .bool (ZB {rows:=(j:Int),cols:=(j:Int),cells:=V} X)]/\OM wi (fun g=>wb.heap.size<=g) y (Zu {rows:=(j:Int),cols:=(j:Int),cells:=V} X):=hdep 4 (by decide) ⟨⟨4, .data⟩,by simp,rfl,rfl⟩ 56 rfl;exact ⟨.bool (ZB {rows:=(j:Int),cols:=(j:Int),cells:=V} X),fun w' _=>ZP (x:= .tmp 56) rfl e4 rfl w',rfl⟩
     intro vs wi hGw hSw hP _;apply ZbK
     ·show _=([some 59,some 60,some 14,some 56,some 61,some 62]:List (Option Tmp))
      kernel_rfl
     simp only[Zc3,List.cons_append,List.nil_append,List.map_cons,List.map_nil,List.zip_cons_cons,List.zip_nil_right,Act.put,List.setIfInBounds_toArray,List.set_cons_succ,List.set_cons_zero];refine ⟨?_⟩;have p5:OM wi (fun g=>wb.heap.size<=g) (vs 5) (Zu {rows:=(j:Int),cols:=(j:Int),cells:=V} X):=hP 5 (by decide);have p6:vs 6= .bool (ZB {rows:=(j:Int),cols:=(j:Int),cells:=V} X):=hP 6 (by decide);obtain ⟨g,p7,hzg,hBg⟩: ∃ g,vs 7= .pointer (some ⟨g,0,none⟩)/\wb.heap.size<=g/\Blk wi g #[Yv Yi 0,Yv Yi 0, .slice none 0 0] 34:=hP 7 (by decide);obtain ⟨ap,np,cp,e5,op,xp,fp,ip,jp⟩:=p5;have hne:=op.ne_blk hBg (by decide);rw[e5,p6,p7];show wpQuiet _ _ _ _ [] _;apply wpQuiet_nil;apply Zf rfl;intro K hK;obtain ⟨⟨z0,z1,z2⟩,g0,g1,g2⟩:=hBg.three;go_wp2_with fail;have hK3:Keep (fun q=>q≠g) wi (((wi.setCell ⟨g,0,none⟩ (Yv Yi (Zu {rows:=(j:Int),cols:=(j:Int),cells:=V} X).rows)).setCell ⟨g,1,none⟩ (Yv Yi (Zu {rows:=(j:Int),cols:=(j:Int),cells:=V} X).cols)).setCell ⟨g,2,none⟩ (.slice ap np cp)):=
      (((Keep.refl _ wi).setCell (fun _ e=>e rfl) _).setCell (fun _ e=>e rfl) _).setCell (fun _ e=>e rfl) _
     have b4:Blk (((wi.setCell ⟨g,0,none⟩ (Yv Yi (Zu {rows:=(j:Int),cols:=(j:Int),cells:=V} X).rows)).setCell ⟨g,1,none⟩ (Yv Yi (Zu {rows:=(j:Int),cols:=(j:Int),cells:=V} X).cols)).setCell ⟨g,2,none⟩ (.slice ap np cp)) g #[Yv Yi (Zu {rows:=(j:Int),cols:=(j:Int),cells:=V} X).rows,Yv Yi (Zu {rows:=(j:Int),cols:=(j:Int),cells:=V} X).cols, .slice ap np cp] 34:=((hBg.set 0 _).set 1 _).set 2 _;have hG24:=hSw.keep hK3 fun q hq=>(by omega);have r4:=(op.keep hK3 fun q hq _ e=>hne (e▸hq)).rdI (S:=fun q=>wb.heap.size<=q) (fun q hq=>fp q hq) xp;refine hK _ _ hG24 ?_;clear hK K;generalize hw4:(((wi.setCell ⟨g,0,none⟩ (Yv Yi (Zu {rows:=(j:Int),cols:=(j:Int),cells:=V} X).rows)).setCell ⟨g,1,none⟩ (Yv Yi (Zu {rows:=(j:Int),cols:=(j:Int),cells:=V} X).cols)).setCell ⟨g,2,none⟩ (.slice ap np cp))=wz at *;clear hw4 hK3 z0 z1 z2 g0 g1 g2;show wpQuiet _ _ _ _ [_] _;(try (conv=>arg 6;simp only[putP]));(repeat (first |(go_big_quiet_want;refine Zh Zc rfl rfl (fun w' hG=>b2.grow hG) ?_;go_big_quiet_on;simp only[putP])|go_big_quiet_step (exact fun _=>rfl)));refine wpQuiet_nil ?_;refine Zk ?_;clear hP hSw hGw op e5 p6 p7 hBg hne;have hGz:=hG4b.trans hG24;have hMm:=Zfa (ZeU {rows:=(j:Int),cols:=(j:Int),cells:=V} X);obtain ⟨⟨e0,e1,e2⟩, -⟩:=b4.three;have lte:=b4.lt;have hzl:np<=576:=(by rw[←r4.len];exact hMm);have r5:=r4.weak (T:=fun _=>True) fun _ _ _=>trivial;cases ZB {rows:=(j:Int),cols:=(j:Int),cells:=V} X with
     |true=>
      go_wp2
      go_ret2
      exact ⟨ap,np,cp,_,0,rfl,r5,hzl,hGz⟩
     |false=>
      go_wp2
      go_ret2
      exact ⟨_,0,0,[],2,rfl,ZlC rfl,by omega,hGz.alloc _ _⟩

end Go.Proofs.YtjpcgofidijigaaGreatDoor
