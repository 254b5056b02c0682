/- The program's ValueAt: it ends. -/
import Derived.Test.YtjpcgofidijigaaGreatDoorZNorm
import Derived.Test.YtjpcgofidijigaaGreatDoorZAddM
set_option maxHeartbeats 8000000
set_option maxRecDepth 100000
namespace Go.Proofs.YtjpcgofidijigaaGreatDoor
open Go.RowKit
open Go.Value renaming int->Yv
open Go.IntKind renaming i64->Yi
def RowPost (B:Nat) (X A:Mat):Nat->Value->World->Prop
 |1,v,w=>OM w (fun g=>B<=g) v X
 |3,v,w=> ∃ y,v= .tuple #[y, .bool (ZB X A)]/\OM w (fun g=>B<=g) y (Zu X A)
 |4,v,w=> ∃ y,v= .tuple #[y, .bool (ZB X A)]/\OM w (fun g=>B<=g) y (Zu X A)
 |5,v,w=>OM w (fun g=>B<=g) v (Zu X A)
 |6,v,_=>v= .bool (ZB X A)
 |7,v,w=> ∃ g,v= .pointer (some ⟨g,0,none⟩)/\B<=g/\Blk w g #[Yv Yi 0,Yv Yi 0, .slice none 0 0] 34
 |_,_,_=>True
theorem RowPost.stays {z:Nat} {A B:Mat}: ∀ i v w w',Grow w w'->RowPost z A B i v w->RowPost z A B i v w':=fun i v w w' hG h=>by
 unfold RowPost at *;split at h
 ·exact h.grow hG
 ·obtain ⟨r,h1,h2⟩:=h;exact ⟨r,h1,h2.grow hG⟩
 ·obtain ⟨r,h1,h2⟩:=h;exact ⟨r,h1,h2.grow hG⟩
 ·exact h.grow hG
 ·exact h
 ·obtain ⟨g,h1,h2,h3⟩:=h;exact ⟨g,h1,h2,h3.grow hG⟩
 ·trivial
theorem Zpx {S T:Nat->Prop} {m:Mat} {a xa:Option Addr} {n c xn xc:Nat} {xs:List Int} {w:World} (h:RdI w S a n c m.cells) (hr:I64 m.rows) (hc:I64 m.cols) (hb:m.cells.length<=1048576) (hX:RdI w T xa xn xc xs) (hxn:xn<=24):
  Calls Tryz.prog 84 #[.agg #[Yv Yi m.rows,Yv Yi m.cols, .slice a n c], .slice xa xn xc] w fun e w'=> ∃ r ok,e= .returned (.tuple #[Yv Yi r, .bool ok])/\Grow w w':=by
 have hxl:=hX.len;obtain ⟨w1,hw1,hG1,bM, -⟩:=al1 w #[Yv Yi m.rows,Yv Yi m.cols, .slice a n c] 34;have vM:VM w1 S (.agg #[Yv Yi m.rows,Yv Yi m.cols, .slice a n c]) m:=⟨a,n,c,rfl,h.grow hG1,hr,hc⟩;obtain ⟨⟨m0,m1,m2⟩, -⟩:=bM.three;have hltM:=bM.lt;rw[hw1] at m0 m1 m2 hltM;have Hw1:=Lib.hid hw1;clear hw1;go_enter Tryz.func84,Tryz.ntmps84;go_wp2_with fail;rw[←Hw1.out];clear m0 m1 m2 hltM;refine (Zkq vM (by unfold bdM;omega)).mono ?_;rintro e w2 ⟨rfl,hG2⟩;have hG12:=hG1.trans hG2;cases hgr:ZbP m with
 |false=>
  clear hgr;go_wp2
  go_ret2
  exact ⟨_,_,rfl,hG12⟩
 |true=>
  obtain ⟨N,hmr,hmc,hN,hl,hnum⟩:=ZeX (show Zas m=true by unfold ZbP at hgr;rw[Bool.and_eq_true] at hgr;exact hgr.1);have bM2:=bM.grow hG2;obtain ⟨⟨m0,m1,m2⟩, -⟩:=bM2.three;have hltM:=bM2.lt;rw[hmr] at m0;clear hgr;by_cases hne:xn=N
  ·subst hne;have vM2:=vM.grow hG2;have rX:=(hX.grow hG12).weak (T:=fun _=>True) fun _ _ _=>trivial;have hNN:xn*xn<=6*6:=Nat.mul_le_mul hN hN;rw[hmr,hmc] at bM2 vM2;obtain ⟨A,hA⟩: ∃ A:Mat,A={rows:=(xn:Int),cols:=(xn:Int),cells:=m.cells}:=⟨_,rfl⟩;have vA:VM w2 S (.agg #[Yv Yi (xn:Int),Yv Yi (xn:Int), .slice a n c]) A:=(by rw[hA];exact ⟨a,n,c,rfl,(h.grow hG1).grow hG2,by show I64 (xn:Int);unfold I64;omega,by show I64 (xn:Int);unfold I64;omega⟩);have hbA:bdM A<=2097152:=(by rw[hA];unfold bdM;simp only;omega);obtain ⟨wb,rfl⟩: ∃ z,z=w2:=⟨_,rfl⟩;have b2:=bM2;clear hA hX h vM vM2 hG1 hG2 hnum bM;go_wp2;have hbX:bdM (Zjt xs)<=2097152:=(by show xs.length<=_;omega);obtain ⟨X,hX⟩: ∃ X,X=Zjt xs:=⟨_,rfl⟩;rw[←hX] at hbX;have HX:=Lib.hid hX;clear hX;refine Zam (S:=Grow wb) (T:=fun _=>True) [0,2] [1,3,7] [4,5,6] [([],some 8),([9],none)] Zm (by kernel_rfl) (fun _ _ _ _ _ h=>h) (Grow.refl _).drew ?_;show wpQuiet _ _ _ _ [_,_] _;(repeat (first |(go_big_quiet_want;refine Zh Zc rfl rfl (fun w' hG=>b2.grow hG) ?_;go_big_quiet_on;simp only[putP])|go_big_quiet_step (exact fun _=>rfl)));refine wpQuiet_nil ?_;refine ⟨by kernel_rfl,RowPost wb.heap.size X A,fun _ _=>none,RowPost.stays,(fun _ _ _ _ _ h=>by cases h),(fun _ _ _=>rfl), ?_, ?_, ?_⟩
   ·intro i hi o ho b wi hGw hSw hdep hfr K hK;have t27:b.tmps.getD 23 undef= .agg #[Yv Yi (xn:Int),Yv Yi (xn:Int), .slice a n c]:=hfr 23 (by decide);have t28:b.tmps.getD 21 undef= .slice xa xn xc:=hfr 21 (by decide);have hs2:=hSw.size;simp only[List.mem_cons,List.not_mem_nil,or_false] at hi;rcases hi with rfl|rfl|rfl
    ·obtain rfl:=Option.some.inj (show some _=some _ from ho);refine Zfr (x:= .tmp 21) rfl Tryz.func123 rfl rfl t28 ?_;refine (Zmw _ _ _ xs _ (rX.grow hSw) (by omega)).mono ?_;rintro e wi ⟨y,rfl,hO,hG3⟩;exact ⟨y,rfl,hK y wi hG3 (hSw.trans hG3) (by rw[←HX.out] at hO;exact hO.weak fun b _ hb=>Nat.le_trans hs2 hb.1) (fun _ h=>by cases h)⟩
    ·obtain rfl:=Option.some.inj (show some _=some _ from ho);have d1:OM wi (fun g=>wb.heap.size<=g) (b.tmps.getD 22 undef) X:=hdep 1 (by decide) ⟨⟨1, .data⟩,by simp,rfl,rfl⟩ 22 rfl;refine Zba (x:= .tmp 22) (y:= .tmp 23) rfl Tryz.func88 rfl rfl rfl t27 ?_;refine (Zcl (d1.rd (S:=fun _=>True) fun _ _=>trivial) (vA.grow hSw) hbX hbA).mono ?_;rintro e wi ⟨y,rfl,hO,hG3⟩;exact ⟨_,rfl,hK _ wi hG3 (hSw.trans hG3) ⟨y,rfl,hO.weak fun b _ hb=>Nat.le_trans hs2 hb.1⟩ (fun _ h=>by cases h)⟩
    ·obtain rfl:=Option.some.inj (show some _=some _ from ho);refine Zbn (z:= .agg #[Yv Yi 0,Yv Yi 0, .slice none 0 0]) rfl (by rfl) ?_;exact hK _ _ ((Grow.refl _).alloc _ _) (hSw.alloc _ _) ⟨wi.heap.size,rfl,hs2,Blk.new _ _ _⟩ (fun _ h=>by cases h)
   ·intro i hi o ho b wi hGw hSw hdep hfr;simp only[List.mem_cons,List.not_mem_nil,or_false] at hi;rcases hi with rfl|rfl|rfl
    ·obtain rfl:=Option.some.inj (show some _=some _ from ho);have d3: ∃ y,b.tmps.getD 24 undef= .tuple #[y, .bool (ZB X A)]/\OM wi (fun g=>wb.heap.size<=g) y (Zu X A):=hdep 3 (by decide) ⟨⟨3, .data⟩,by simp,rfl,rfl⟩ 24 rfl;exact ⟨b.tmps.getD 24 undef,fun _ _=>rfl,d3⟩
    ·obtain rfl:=Option.some.inj (show some _=some _ from ho);obtain ⟨y,e4,hO⟩: ∃ y,b.tmps.getD 20 undef= .tuple #[y, .bool (ZB X A)]/\OM wi (fun g=>wb.heap.size<=g) y (Zu X A):=hdep 4 (by decide) ⟨⟨4, .data⟩,by simp,rfl,rfl⟩ 20 rfl;exact ⟨y,fun w' _=>ZP (x:= .tmp 20) rfl e4 rfl w',hO⟩
    ·obtain rfl:=Option.some.inj (show some _=some _ from ho);obtain ⟨y,e4,hO⟩: ∃ y,b.tmps.getD 20 undef= .tuple #[y, .bool (ZB X A)]/\OM wi (fun g=>wb.heap.size<=g) y (Zu X A):=hdep 4 (by decide) ⟨⟨4, .data⟩,by simp,rfl,rfl⟩ 20 rfl;exact ⟨.bool (ZB X A),fun w' _=>ZP (x:= .tmp 20) rfl e4 rfl w',rfl⟩
   intro vs wi hGw hSw hP _;apply ZbK
   ·show _=([some 22,some 24,some 6,some 20,some 25,some 26]:List (Option Tmp))
    kernel_rfl
   simp only[Zc3,List.cons_append,List.nil_append,List.map_cons,List.map_nil,List.zip_cons_cons,List.zip_nil_right,Act.put,List.setIfInBounds_toArray,List.set_cons_succ,List.set_cons_zero];refine ⟨?_⟩;have p5:OM wi (fun g=>wb.heap.size<=g) (vs 5) (Zu X A):=hP 5 (by decide);have p6:vs 6= .bool (ZB X A):=hP 6 (by decide);obtain ⟨g,p7,hzg,hBg⟩: ∃ g,vs 7= .pointer (some ⟨g,0,none⟩)/\wb.heap.size<=g/\Blk wi g #[Yv Yi 0,Yv Yi 0, .slice none 0 0] 34:=hP 7 (by decide);obtain ⟨ap,np,cp,e5,op,xp,fp,ip,jp⟩:=p5;have hne:=op.ne_blk hBg (by decide);rw[e5,p6,p7];show wpQuiet _ _ _ _ [] _;apply wpQuiet_nil;apply Zf rfl;intro K hK;obtain ⟨⟨z0,z1,z2⟩,g0,g1,g2⟩:=hBg.three;go_wp2_with fail;have hK3:Keep (fun q=>q≠g) wi (((wi.setCell ⟨g,0,none⟩ (Yv Yi (Zu X A).rows)).setCell ⟨g,1,none⟩ (Yv Yi (Zu X A).cols)).setCell ⟨g,2,none⟩ (.slice ap np cp)):=
    (((Keep.refl _ wi).setCell (fun _ e=>e rfl) _).setCell (fun _ e=>e rfl) _).setCell (fun _ e=>e rfl) _
   have b4:Blk (((wi.setCell ⟨g,0,none⟩ (Yv Yi (Zu X A).rows)).setCell ⟨g,1,none⟩ (Yv Yi (Zu X A).cols)).setCell ⟨g,2,none⟩ (.slice ap np cp)) g #[Yv Yi (Zu X A).rows,Yv Yi (Zu X A).cols, .slice ap np cp] 34:=((hBg.set 0 _).set 1 _).set 2 _;have hG24:=hSw.keep hK3 fun q hq=>(by omega);have r4:=(op.keep hK3 fun q hq _ e=>hne (e▸hq)).rdI (S:=fun q=>wb.heap.size<=q) (fun q hq=>fp q hq) xp;refine hK _ _ hG24 ?_;clear hK K;generalize hw4:(((wi.setCell ⟨g,0,none⟩ (Yv Yi (Zu X A).rows)).setCell ⟨g,1,none⟩ (Yv Yi (Zu X A).cols)).setCell ⟨g,2,none⟩ (.slice ap np cp))=wz at *;clear hw4 hK3 z0 z1 z2 g0 g1 g2;show wpQuiet _ _ _ _ [_] _;(try (conv=>arg 6;simp only[putP]));(repeat (first |(go_big_quiet_want;refine Zh Zc rfl rfl (fun w' hG=>b2.grow hG) ?_;go_big_quiet_on;simp only[putP])|go_big_quiet_step (exact fun _=>rfl)));refine wpQuiet_nil ?_;refine Zk ?_;clear hP hSw hGw op e5 p6 p7 hBg hne;have hGz:=hG12.trans hG24;have hMm:=Zfa (ZeU X A);obtain ⟨R,C,er,ec,hR,hC, -, -⟩:=Zn (ZeU X A);cases hok:ZB X A with
   |false=>
    clear hok;go_wp2
    go_ret2
    exact ⟨_,_,rfl,hGz⟩
   |true=>
    have hPr:(Zu X A).rows=1:=(by rw[(Zgf hok).1,HX.out];rfl);clear hok HX hbX;generalize Zu X A=Q at *;rw[er,ec] at b4;have vQ:VM wz (fun q=>wb.heap.size<=q) (.agg #[Yv Yi (R:Int),Yv Yi (C:Int), .slice ap np cp]) Q:=(by rw[←er, ←ec];exact ⟨ap,np,cp,rfl,r4,by rw[er];unfold I64;omega,by rw[ec];unfold I64;omega⟩);have rX4:=rX.grow hG24;clear vA hbA X b2 rX bM2 hG24 r4 m0 m1 m2 hltM;have vA:=vQ;have hbA:bdM Q<=2097152:=(by omega);have b2:=b4;have rX:=rX4;clear vQ rX4;have hG4:=hGz;clear hGz;obtain ⟨wb2,rfl⟩: ∃ z,z=wz:=⟨_,rfl⟩;go_wp2;have hbX:bdM (ZeV xs)<=2097152:=(by show xs.length<=_;omega);obtain ⟨X,hX⟩: ∃ X,X=ZeV xs:=⟨_,rfl⟩;rw[←hX] at hbX;have HX:=Lib.hid hX;clear hX;refine Zam (S:=Grow wb2) (T:=fun _=>True) [0,1] [2,3,7] [4,5,6] [([],some 8),([9],none)] Zm (by kernel_rfl) (fun _ _ _ _ _ h=>h) (Grow.refl _).drew ?_;show wpQuiet _ _ _ _ [_,_] _;(repeat (first |(go_big_quiet_want;refine Zh Zc rfl rfl (fun w' hG=>b2.grow hG) ?_;go_big_quiet_on;simp only[putP])|go_big_quiet_step (exact fun _=>rfl)));refine wpQuiet_nil ?_;refine ⟨by kernel_rfl,ColPost wb2.heap.size Q X,fun _ _=>none,ColPost.stays,(fun _ _ _ _ _ h=>by cases h),(fun _ _ _=>rfl), ?_, ?_, ?_⟩
    ·intro i hi o ho b wi hGw hSw hdep hfr K hK;have t27:b.tmps.getD 30 undef= .agg #[Yv Yi (R:Int),Yv Yi (C:Int), .slice ap np cp]:=hfr 30 (by decide);have t28:b.tmps.getD 31 undef= .slice xa xn xc:=hfr 31 (by decide);have hs2:=hSw.size;simp only[List.mem_cons,List.not_mem_nil,or_false] at hi;rcases hi with rfl|rfl|rfl
     ·obtain rfl:=Option.some.inj (show some _=some _ from ho);refine Zfr (x:= .tmp 31) rfl Tryz.func89 rfl rfl t28 ?_;refine (Zf4 _ _ _ xs _ (rX.grow hSw) (by omega)).mono ?_;rintro e wi ⟨y,rfl,hO,hG3⟩;exact ⟨y,rfl,hK y wi hG3 (hSw.trans hG3) (by rw[←HX.out] at hO;exact hO.weak fun b _ hb=>Nat.le_trans hs2 hb.1) (fun _ h=>by cases h)⟩
     ·obtain rfl:=Option.some.inj (show some _=some _ from ho);have d1:OM wi (fun g=>wb2.heap.size<=g) (b.tmps.getD 32 undef) X:=hdep 2 (by decide) ⟨⟨2, .data⟩,by simp,rfl,rfl⟩ 32 rfl;refine Zba (x:= .tmp 30) (y:= .tmp 32) rfl Tryz.func88 rfl rfl t27 rfl ?_;refine (Zcl (vA.grow hSw) (d1.rd (S:=fun _=>True) fun _ _=>trivial) hbA hbX).mono ?_;rintro e wi ⟨y,rfl,hO,hG3⟩;exact ⟨_,rfl,hK _ wi hG3 (hSw.trans hG3) ⟨y,rfl,hO.weak fun b _ hb=>Nat.le_trans hs2 hb.1⟩ (fun _ h=>by cases h)⟩
     ·obtain rfl:=Option.some.inj (show some _=some _ from ho);refine Zbn (z:= .agg #[Yv Yi 0,Yv Yi 0, .slice none 0 0]) rfl (by rfl) ?_;exact hK _ _ ((Grow.refl _).alloc _ _) (hSw.alloc _ _) ⟨wi.heap.size,rfl,hs2,Blk.new _ _ _⟩ (fun _ h=>by cases h)
    ·intro i hi o ho b wi hGw hSw hdep hfr;simp only[List.mem_cons,List.not_mem_nil,or_false] at hi;rcases hi with rfl|rfl|rfl
     ·obtain rfl:=Option.some.inj (show some _=some _ from ho);have d3: ∃ y,b.tmps.getD 33 undef= .tuple #[y, .bool (ZB Q X)]/\OM wi (fun g=>wb2.heap.size<=g) y (Zu Q X):=hdep 3 (by decide) ⟨⟨3, .data⟩,by simp,rfl,rfl⟩ 33 rfl;exact ⟨b.tmps.getD 33 undef,fun _ _=>rfl,d3⟩
     ·obtain rfl:=Option.some.inj (show some _=some _ from ho);obtain ⟨y,e4,hO⟩: ∃ y,b.tmps.getD 29 undef= .tuple #[y, .bool (ZB Q X)]/\OM wi (fun g=>wb2.heap.size<=g) y (Zu Q X):=hdep 4 (by decide) ⟨⟨4, .data⟩,by simp,rfl,rfl⟩ 29 rfl;exact ⟨y,fun w' _=>ZP (x:= .tmp 29) rfl e4 rfl w',hO⟩
     ·obtain rfl:=Option.some.inj (show some _=some _ from ho);obtain ⟨y,e4,hO⟩: ∃ y,b.tmps.getD 29 undef= .tuple #[y, .bool (ZB Q X)]/\OM wi (fun g=>wb2.heap.size<=g) y (Zu Q X):=hdep 4 (by decide) ⟨⟨4, .data⟩,by simp,rfl,rfl⟩ 29 rfl;exact ⟨.bool (ZB Q X),fun w' _=>ZP (x:= .tmp 29) rfl e4 rfl w',rfl⟩
    intro vs wi hGw hSw hP _;apply ZbK
    ·show _=([some 32,some 33,some 8,some 29,some 34,some 35]:List (Option Tmp))
     kernel_rfl
    simp only[Zc3,List.cons_append,List.nil_append,List.map_cons,List.map_nil,List.zip_cons_cons,List.zip_nil_right,Act.put,List.setIfInBounds_toArray,List.set_cons_succ,List.set_cons_zero];refine ⟨?_⟩;have p5:OM wi (fun g=>wb2.heap.size<=g) (vs 5) (Zu Q X):=hP 5 (by decide);have p6:vs 6= .bool (ZB Q X):=hP 6 (by decide);obtain ⟨g,p7,hzg,hBg⟩: ∃ g,vs 7= .pointer (some ⟨g,0,none⟩)/\wb2.heap.size<=g/\Blk wi g #[Yv Yi 0,Yv Yi 0, .slice none 0 0] 34:=hP 7 (by decide);obtain ⟨ap,np,cp,e5,op,xp,fp,ip,jp⟩:=p5;have hne:=op.ne_blk hBg (by decide);rw[e5,p6,p7];show wpQuiet _ _ _ _ [] _;apply wpQuiet_nil;apply Zf rfl;intro K hK;obtain ⟨⟨z0,z1,z2⟩,g0,g1,g2⟩:=hBg.three;go_wp2_with fail;have hK3:Keep (fun q=>q≠g) wi (((wi.setCell ⟨g,0,none⟩ (Yv Yi (Zu Q X).rows)).setCell ⟨g,1,none⟩ (Yv Yi (Zu Q X).cols)).setCell ⟨g,2,none⟩ (.slice ap np cp)):=
     (((Keep.refl _ wi).setCell (fun _ e=>e rfl) _).setCell (fun _ e=>e rfl) _).setCell (fun _ e=>e rfl) _
    have b4:Blk (((wi.setCell ⟨g,0,none⟩ (Yv Yi (Zu Q X).rows)).setCell ⟨g,1,none⟩ (Yv Yi (Zu Q X).cols)).setCell ⟨g,2,none⟩ (.slice ap np cp)) g #[Yv Yi (Zu Q X).rows,Yv Yi (Zu Q X).cols, .slice ap np cp] 34:=((hBg.set 0 _).set 1 _).set 2 _;have hG24:=hSw.keep hK3 fun q hq=>(by omega);have r4:=(op.keep hK3 fun q hq _ e=>hne (e▸hq)).rdI (S:=fun q=>wb2.heap.size<=q) (fun q hq=>fp q hq) xp;refine hK _ _ hG24 ?_;clear hK K;generalize hw4:(((wi.setCell ⟨g,0,none⟩ (Yv Yi (Zu Q X).rows)).setCell ⟨g,1,none⟩ (Yv Yi (Zu Q X).cols)).setCell ⟨g,2,none⟩ (.slice ap np cp))=wz at *;clear hw4 hK3 z0 z1 z2 g0 g1 g2;show wpQuiet _ _ _ _ [_] _;(try (conv=>arg 6;simp only[putP]));(repeat (first |(go_big_quiet_want;refine Zh Zc rfl rfl (fun w' hG=>b2.grow hG) ?_;go_big_quiet_on;simp only[putP])|go_big_quiet_step (exact fun _=>rfl)));refine wpQuiet_nil ?_;refine Zk ?_;clear hP hSw hGw op e5 p6 p7 hBg hne;have hGz:=hG4.trans hG24;cases hok:ZB Q X with
    |false=>
     clear hok;go_wp2
     go_ret2
     exact ⟨_,_,rfl,hGz⟩
    |true=>
     obtain ⟨e1,e2⟩:=Zgf hok;obtain ⟨R',C',er',ec', -, -,hl', -⟩:=Zn (ZeU Q X);have hc1:(Zu Q X).cols=1:=(by rw[e2,HX.out];rfl);obtain rfl:R'=1:=(by omega);obtain rfl:C'=1:=(by omega);have hnp:=r4.len;obtain ⟨b5,o5,x5,e5, -, -, -,hb5,hc5⟩:=r4.at (show 0<np by omega);subst e5;rw[Nat.add_zero] at hc5;have h01:0<np:=(by omega);obtain ⟨⟨k0,k1,k2⟩, -⟩:=b4.three;have hlk:=b4.lt;clear e1 e2 er' ec' hl' hc1 hok;go_wp2
     go_ret2
     exact ⟨_,_,rfl,hGz⟩
  ·have q1:((xn:Int)!=(N:Int))=true:=(by simp;omega);clear hne;go_wp2
   go_ret2
   exact ⟨_,_,rfl,hG12⟩

end Go.Proofs.YtjpcgofidijigaaGreatDoor
