/- Numbers read back from their texts: the reference's ParseInt. -/
import Derived.Test.YtjpcgofidijigaaGreatDoorZSetDefS
set_option maxHeartbeats 8000000
set_option maxRecDepth 100000
namespace Go.Proofs.YtjpcgofidijigaaGreatDoor
open Go.RowKit
open Lib (hid)
variable {F S:Nat->Prop} {d:Dfn} {i k:Nat} {ps:List (List UInt8)} {v:Value} {w:World}
def sg (s:ByteArray):Nat:=if Zsl s.data.toList then 1 else 0
structure PI (s:ByteArray) (i d u:Nat):Prop where
 read:Lib.decFrom 0 ((Znj s.data.toList).take d)=some u
 at_:i=d+sg s\/(i=0/\d=0)
 le:d<=12
theorem PI.lt {s:ByteArray} {d u:Nat} (h:PI s i d u):u<1000000000000:=by
 have:=Lib.decFrom_lt _ _ _ h.read;have h2:((Znj s.data.toList).take d).length<=12:=by simp;have:=h.le;omega
 have h3:(10:Nat)^((Znj s.data.toList).take d).length<=10^12:=Nat.pow_le_pow_right (by decide) h2;omega
theorem Zde (s:ByteArray):s.data.toList.length=s.size:=by rw[Array.length_toList];rfl
theorem getD_some {α:Type} {l:List α} {x d:α} (h:l[k]? =some x):l.getD k d=x:=by rw[List.getD,h];rfl
theorem ZaW:OM w F (.agg #[.int .i64 0, .int .i64 0, .slice none 0 0]) zeroP:=
 ⟨none,0,0,rfl,⟨by simp[zeroP],Nat.le_refl _,by unfold maxLen;omega,fun _=>rfl,fun p h=>by cases h⟩,(fun x hx=>by simp[zeroP] at hx),(fun g h=>by cases h),⟨by decide,by decide⟩,⟨by decide,by decide⟩⟩
theorem RdS.piece {a:Option Addr} {n cap:Nat} (h:RdS w S a n cap (ps.map Zb)) (hk:k<n):
  ∃ b off y,a=some ⟨b,off,none⟩/\ps[k]? =some y/\b<w.heap.size/\w.cell? ⟨b,off+k,none⟩=some (.string (Zb y)):=by
 obtain ⟨b,off,x,ha,hx, -,hb,hc⟩:=h.at hk;rw[List.getElem?_map] at hx;obtain ⟨y,hy,rfl⟩:=Option.map_eq_some_iff.1 hx;exact ⟨b,off,y,ha,hy,hb,hc⟩
theorem ZeW (h:VD w S v d) (hb:d.value.cells.length<=2097152):
  Calls Tryz.prog 7 #[v] w fun e w'=>e= .returned (.string (Zb (ZaU d)))/\Grow w w':=by
 have hVD:=h;obtain ⟨a,n,c,rfl,h,ho⟩:=h;obtain ⟨o1,o2,o3,o4,o5,o6⟩:=ho;have hG1:=(Grow.refl w).alloc #[.string d.name, .int .i64 d.op, .string d.a, .string d.b, .int .i64 d.value.rows, .int .i64 d.value.cols, .slice a n c] 36;have bM:=Blk.new w #[.string d.name, .int .i64 d.op, .string d.a, .string d.b, .int .i64 d.value.rows, .int .i64 d.value.cols, .slice a n c] 36;obtain ⟨⟨m0,m1,m2,m3,m4,m5,m6⟩, -⟩:=bM.seven;have ho2:=o2;unfold I64 at o2;cases hok:Zac d with
 |false=>have Hz:=hid (ZhJ hok);go_enter Tryz.func7,Tryz.ntmps7;go_wp2_with fail;refine (ZcS (hVD.grow hG1) hb).mono ?_;rw[hok];rintro e w2 ⟨rfl,hG2⟩;clear hok;go_wp2;go_ret;exact ⟨by rw[Hz.out];rfl,hG1.trans hG2⟩
 |true=>
  obtain ⟨r1,r2,r3,r4,r5⟩:=Zgi hok;have Hok:=hid hok;go_enter Tryz.func7,Tryz.ntmps7;go_wp2_with fail;refine (ZcS (hVD.grow hG1) hb).mono ?_;rw[hok];rintro e w2 ⟨rfl,hG2⟩;have bM2:=bM.grow hG2;have hG12:=hG1.trans hG2;clear hok m0 m1 m2 m3 m4 m5 m6;obtain ⟨⟨m0,m1,m2,m3,m4,m5,m6⟩, -⟩:=bM2.seven;by_cases h0:d.op=0
  ·have q0:(d.op==0)=true:=(by simp[h0]);have Hf:=hid (ZlL Hok.out h0);have hfl:=Zcv d.value;clear h0;go_wp2;refine Zg (S:=Grow w2) [([0,1,2,3,4],some 5),([6,7],none)] Zm (by kernel_rfl) (fun _ _ _ _ _ h=>h) (Grow.refl _).drew ?_;show wpQuiet _ _ _ _ [_,_,_,_,_] _;(repeat (first |(go_big_quiet_want;(first |refine Za ZO rfl rfl (fun w' hG=>hG.cell m0) ?_|refine Zds Zc rfl rfl (fun w' hG=>⟨hG.cell m4,hG.cell m5,hG.cell m6⟩) ?_);go_big_quiet_on;simp only[putP])|go_big_quiet_step (exact fun _=>rfl)));refine wpQuiet_nil ?_;refine Zf rfl (fun K hK=> ?_);go_wp2_with fail;refine (ZiR (m:=d.value) (S:=S) ⟨a,n,c,rfl,(h.grow hG12).grow (Grow.refl w2).drew,o5,o6⟩ hb).mono ?_;rintro e w3 ⟨rfl,hG3⟩;have hGa:=(Grow.refl w2).drew.trans hG3;go_wp2_with fail;refine hK _ _ (hGa) ?_;clear hK K;show wpQuiet _ _ _ _ [_,_] _;(try (conv=>arg 6;simp only[putP]));(repeat (first |(go_big_quiet_want;(first |refine Za ZO rfl rfl (fun w' hG=>hG.cell m0) ?_|refine Zds Zc rfl rfl (fun w' hG=>⟨hG.cell m4,hG.cell m5,hG.cell m6⟩) ?_);go_big_quiet_on;simp only[putP])|go_big_quiet_step (exact fun _=>rfl)));refine wpQuiet_nil ?_;refine Zk ?_;go_wp2;go_ret;exact ⟨by rw[←Hf.out];rfl,hG12.trans hGa⟩
  ·have q0:(d.op==0)=false:=(by simp[h0]);have hol:=ZjR d.op;have H2:=hid (Zly (d:=d) Hok.out h0);have H3:=hid (ZiS (d:=d) Hok.out h0);clear h0;go_wp2;refine Zg (S:=Grow w2) [([0,1,2,3,4,8,9],some 5),([6,7,10,11],none)] Zm (by kernel_rfl) (fun _ _ _ _ _ h=>h) (Grow.refl _).drew ?_;show wpQuiet _ _ _ _ [_,_,_,_,_,_,_] _;(repeat (first |(go_big_quiet_want;(first |refine Za ZO rfl rfl (fun w' hG=>hG.cell m0) ?_|refine Za Zv rfl rfl (fun w' hG=>hG.cell m1) ?_|refine Za ZO rfl rfl (fun w' hG=>hG.cell m2) ?_);go_big_quiet_on;simp only[putP])|go_big_quiet_step (exact fun _=>rfl)));refine wpQuiet_nil ?_;refine Zf rfl (fun K hK=> ?_);go_wp2_with fail;refine (ZrF d.op _ ho2).mono ?_;rintro e w3 ⟨rfl,hG3⟩;have hGa:=(Grow.refl w2).drew.trans hG3;go_wp2_with fail;refine hK _ _ (hGa) ?_;clear hK K;show wpQuiet _ _ _ _ [_,_,_,_] _;(try (conv=>arg 6;simp only[putP]));(repeat (first |(go_big_quiet_want;(first |refine Za ZO rfl rfl (fun w' hG=>hG.cell m0) ?_|refine Za Zv rfl rfl (fun w' hG=>hG.cell m1) ?_|refine Za ZO rfl rfl (fun w' hG=>hG.cell m2) ?_);go_big_quiet_on;simp only[putP])|go_big_quiet_step (exact fun _=>rfl)));refine wpQuiet_nil ?_;refine Zk ?_;have bM3:=bM2.grow hGa;clear m0 m1 m2 m3 m4 m5 m6;obtain ⟨⟨m0,m1,m2,m3,m4,m5,m6⟩, -⟩:=bM3.seven;cases hbe:d.b.toList.isEmpty with
   |true=>have Hf:=hid (H2.out hbe);have hbn:(!d.b.toList.isEmpty)=false:=(by rw[hbe];rfl);go_wp2;go_ret;exact ⟨by rw[←Hf.out];rfl,hG12.trans hGa⟩
   |false=>have Hf:=hid (H3.out hbe);have hbn:(!d.b.toList.isEmpty)=true:=(by rw[hbe];rfl);go_wp2;go_ret;exact ⟨by rw[←Hf.out];rfl,hG12.trans hGa⟩
theorem Zpu {x:List UInt8} (h:1<=i):ZaZ x i=if x=opw (i:Int) then (i:Int) else ZaZ x (i-1):=by
 obtain ⟨n,rfl⟩: ∃ n,i=n+1:=⟨i-1,by omega⟩;simp only[ZaZ,Nat.add_sub_cancel];rfl
abbrev Zf5:Array Value:= #[.string ⟨#[]⟩, .int .i64 0, .string ⟨#[]⟩, .string ⟨#[]⟩, .int .i64 0, .int .i64 0, .slice none 0 0]
theorem ZbN:OD w F (.agg Zf5) Ze3:=
 ⟨none,0,0,rfl,Own.nilw,(fun x hx=>by simp[Ze3] at hx),(fun g h=>by cases h),⟨Nat.zero_le _,⟨by decide,by decide⟩,Nat.zero_le _,Nat.zero_le _,⟨by decide,by decide⟩,⟨by decide,by decide⟩⟩⟩
theorem ZoM (h:ps.length<=k):ps.getD k []=[]:=by rw[List.getD_eq_getElem?_getD,List.getElem?_eq_none h];rfl
theorem ZkA {n:ByteArray} {op:Int} {A B:List UInt8} (hn:n.size<=maxLen) (ho:0<=op/\op<=9) (ha:A.length<=maxLen) (hb:B.length<=maxLen):DOk ⟨n,op,Zb A,Zb B,zeroP⟩:=
 ⟨hn,⟨by show _<=op;omega,by show op<=_;omega⟩,by show (Zb A).size<=_;rw[ZG];exact ha,by show (Zb B).size<=_;rw[ZG];exact hb,⟨by show _<=(0:Int);decide,by show (0:Int)<=_;decide⟩,⟨by show _<=(0:Int);decide,by show (0:Int)<=_;decide⟩⟩
theorem Znk (hb:bdD d<=10):(ZaU d).length<=256:=by
 unfold bdD at hb;cases hd:Zac d with
 |false=>rw[ZhJ hd];simp
 |true=>
  have hr:=Zgi hd;unfold ZaU;rw[if_pos hd];have e1:d.name.data.toList.length=d.name.size:=Zde _;have e2:d.a.data.toList.length=d.a.size:=Zde _;have e3:d.b.data.toList.length=d.b.size:=Zde _;simp only[List.length_append,List.length_cons];split
  ·have:(ZaL d.value).length<=160:=by
    unfold ZaL;split
    ·rename_i h;obtain ⟨R,C,hR,hC,h1,h2,h3,h4⟩:=Zn h;have a:=Zan (n:=d.value.rows) (by omega) (by omega);have b:=Zan (n:=d.value.cols) (by omega) (by omega);have c:=Zdr (C:=d.value.cols.toNat) (k:=0) h4;simp only[List.length_append,List.length_cons,List.length_nil];omega
    ·simp
   omega
  ·have h2:=ZjR d.op;simp only[List.length_append,List.length_cons];have h3:(if d.b.toList.isEmpty=true then ([]:List UInt8) else 32::d.b.data.toList).length<=d.b.size+1:=(by split<;>simp<;>omega);omega
theorem Zoi (g:Nat) (w:World) (h:Cur w g):
  Calls Tryz.prog 11 #[.pointer (some ⟨g,0,none⟩)] w fun e w'=> ∃ s:ByteArray,s.size<=400/\e= .returned (.string s)/\Cur w' g/\Keep (fun q=>q≠g) w w':=by
 go_enter Tryz.func11,Tryz.ntmps11;go_wp2_with fail;refine (Zeb g _ h).mono ?_;rintro e w1 ⟨nm,hnm,rfl,hC1,hK1⟩;go_wp2_with fail;refine (ZaK g 10 _ hC1 (by omega)).mono ?_;rintro e w2 ⟨x, -,rfl,hC2,hK2⟩;have hK02:=hK1.trans hK2;have hlt2:=hC2.lt;clear hC1 hK1 hK2;have five: ∀ n:Nat,n<=9->(Zb (Lib.itoa n)).size<=21:=fun n hn=>by rw[ZG];exact Lib.itoa_length_le _ (by omega) (by omega)
 have Five:=hid five;clear five;by_cases e0:x=0
 ·subst e0;go_wp2;go_ret;exact ⟨_,by rw[ByteArray.size_append];have:(⟨#[115,104,111,119,32]⟩:ByteArray).size=5:=rfl;omega,rfl,hC2,hK02⟩
 by_cases e1:x=1
 ·subst e1;go_wp2_with fail;have hR:RdS (w2.alloc (.cells #[.string ⟨#[114,97,110,107,32]⟩, .string ⟨#[102,97,99,116,111,114,115,32]⟩] 9)) (fun q=>q=w2.heap.size) (some ⟨w2.heap.size,0,none⟩) 2 2 [⟨#[114,97,110,107,32]⟩,⟨#[102,97,99,116,111,114,115,32]⟩]:=RdS.lit (Blk.new _ _ _) rfl rfl (by simp) rfl;have hGa:=(Grow.refl w2).alloc #[.string ⟨#[114,97,110,107,32]⟩, .string ⟨#[102,97,99,116,111,114,115,32]⟩] 9;refine (Ziz g _ _ _ _ _ (hC2.grow hGa) hR (fun q hq=>by omega) (by omega) (by omega)).mono ?_;rintro e w3 ⟨y,hy,rfl,hC,hK⟩;have hy8:y.size<=8:=by simp at hy;rcases hy with rfl|rfl<;>decide
  clear hy;go_wp2;go_ret;exact ⟨_,by rw[ByteArray.size_append];omega,rfl,hC,hK02.trans (hGa.any.trans hK)⟩
 by_cases e2:x=2
 ·subst e2;go_wp2_with fail;refine (ZaK g 9 _ hC2 (by omega)).mono ?_;rintro e w3 ⟨n1,hn1,rfl,hC3,hK3⟩;go_wp2_with fail;refine (ZaX (n1:Int) _ (by unfold I64;omega)).mono ?_;rintro e _ ⟨rfl,rfl⟩;have h5:=Five.out n1 (by omega);generalize Zb (Lib.itoa n1)=t1 at *;go_wp2;go_ret;exact ⟨_,by simp only[ByteArray.size_append];have:(⟨#[115,104,111,114,116,32]⟩:ByteArray).size=6:=rfl;have:(⟨#[32]⟩:ByteArray).size=1:=rfl;omega,rfl,hC3,hK02.trans hK3⟩
 by_cases e3:x=3
 ·subst e3;go_wp2_with fail;refine (ZaK g 9 _ hC2 (by omega)).mono ?_;rintro e w3 ⟨n1,hn1,rfl,hC3,hK3⟩;go_wp2_with fail;refine (ZaX (n1:Int) _ (by unfold I64;omega)).mono ?_;rintro e w3' ⟨rfl,hwe⟩;rw[←hwe];clear hwe w3';have h5:=Five.out n1 (by omega);generalize Zb (Lib.itoa n1)=t1 at *;go_wp2_with fail;refine (ZaK g 9 _ hC3 (by omega)).mono ?_;rintro e w4 ⟨n2,hn2,rfl,hC4,hK4⟩;go_wp2_with fail;refine (ZaX (n2:Int) _ (by unfold I64;omega)).mono ?_;rintro e w4' ⟨rfl,hwe⟩;rw[←hwe];clear hwe w4';have h6:=Five.out n2 (by omega);generalize Zb (Lib.itoa n2)=t2 at *;go_wp2;go_ret;exact ⟨_,by simp only[ByteArray.size_append];have:(⟨#[115,111,108,118,101,32]⟩:ByteArray).size=6:=rfl;have:(⟨#[32]⟩:ByteArray).size=1:=rfl;omega,rfl,hC4,(hK02.trans hK3).trans hK4⟩
 by_cases e4:x=4
 ·subst e4;go_wp2_with fail;have hR:RdS (w2.alloc (.cells #[.string ⟨#[117,110,100,111]⟩, .string ⟨#[]⟩, .string ⟨#[115,104,111,119]⟩, .string ⟨#[108,101,116]⟩, .string ⟨#[108,101,116,32,65]⟩, .string ⟨#[115,111,108,118,101,32,65]⟩, .string ⟨#[115,104,111,114,116,32,65,32,120]⟩] 9)) (fun q=>q=w2.heap.size) (some ⟨w2.heap.size,0,none⟩) 7 7 [⟨#[117,110,100,111]⟩,⟨#[]⟩,⟨#[115,104,111,119]⟩,⟨#[108,101,116]⟩,⟨#[108,101,116,32,65]⟩,⟨#[115,111,108,118,101,32,65]⟩,⟨#[115,104,111,114,116,32,65,32,120]⟩]:=RdS.lit (Blk.new _ _ _) rfl rfl (by simp) rfl;have hGa:=(Grow.refl w2).alloc #[.string ⟨#[117,110,100,111]⟩, .string ⟨#[]⟩, .string ⟨#[115,104,111,119]⟩, .string ⟨#[108,101,116]⟩, .string ⟨#[108,101,116,32,65]⟩, .string ⟨#[115,111,108,118,101,32,65]⟩, .string ⟨#[115,104,111,114,116,32,65,32,120]⟩] 9;refine (Ziz g _ _ _ _ _ (hC2.grow hGa) hR (fun q hq=>by omega) (by omega) (by omega)).mono ?_;rintro e w3 ⟨y,hy,rfl,hC,hK⟩;have hy8:y.size<=9:=by simp at hy;rcases hy with rfl|rfl|rfl|rfl|rfl|rfl|rfl<;>decide
  clear hy;go_wp2;go_ret;exact ⟨_,by omega,rfl,hC,hK02.trans (hGa.any.trans hK)⟩
 ·go_wp2_with fail;refine (Zmd g _ hC2).mono ?_;rintro e w3 ⟨v,d,rfl,hOD,hbd,hC3,hK3⟩;have hb2:=hbd;unfold bdD at hb2;have hfl:=Znk hbd;go_wp2_with fail;refine (ZeW (hOD.rd (S:=fun _=>True) fun _ _=>trivial) (by omega)).mono ?_;rintro e w4 ⟨rfl,hG4⟩;have hbz:=ZG (ZaU d);generalize ZaU d=L at *;go_wp2;go_ret;exact ⟨_,by rw[ByteArray.size_append];have:(⟨#[108,101,116,32]⟩:ByteArray).size=4:=rfl;omega,rfl,hC3.grow hG4,(hK02.trans hK3).trans hG4.any⟩
theorem VSes.weak {T:Nat->Prop} {D:List Dfn} {P:List (List Dfn)} (h:VSes w S v D P) (hST: ∀ b,b<w.heap.size->S b->T b):VSes w T v D P:=by
 obtain ⟨da,dn,dc,pa,pn,pc,e,h1,h2⟩:=h;exact ⟨da,dn,dc,pa,pn,pc,e,h1.weak hST,h2.weak hST⟩
theorem ZkM (a:Option Addr) (n cap:Nat) (bs:List Int) (w:World) (h:RdB w S a n cap bs) (hn:n<=1048576):
  Calls Tryz.prog 5 #[.slice a n cap] w fun e w'=> ∃ v s,e= .returned (.tuple #[v, .string s])/\s.size<=400/\ ∃ D P,VSes w' (fun _=>True) v D P/\Zae D<=1000/\((∀ p∈P,Zae p<=1000)/\P.length<=1)/\Grow w w':=by
 have hG1:=(Grow.refl w).alloc #[.slice none 0 0, .slice none 0 0] 27;have bZ:=Blk.new w #[.slice none 0 0, .slice none 0 0] 27;go_enter Tryz.func5,Tryz.ntmps5;go_wp2_with fail;refine (Zr7 _ _ _ bs _ (h.grow hG1) (by omega)).mono ?_;rintro e w1 ⟨g,hg,rfl,hC1,hG2⟩;have hgz:w.heap.size+1<=g:=by simpa using hg
 have hg1:=hC1.lt;go_wp2_with fail;refine (ZiQ g _ hC1).mono ?_;rintro e w2 ⟨da,dn,dc,D,rfl,rD,hbD,hC2,hK2⟩;have hs2:=hK2.size;replace rD:=rD.weak (T:=fun q=>w1.heap.size<=q/\q<w2.heap.size) fun q hlt hq=>⟨hq,hlt⟩;obtain ⟨w3,hw3,hG3,bS, -⟩:=al1 w2 #[.slice da dn dc, .slice none 0 0] 27;have hGw:=((hG1.trans hG2).keep hK2 (fun q hq e=>by omega)).trans hG3;replace bZ:=((bZ.grow hG2).keep hK2 (by omega)).grow hG3;have hs3:=bS.lt;have Hw3:=hid hw3;clear hw3;go_wp2_with fail;rw[←Hw3.out];refine (Zc8 g 2 _ (hC2.grow hG3) (by omega)).mono ?_;rintro e w4 ⟨b,rfl,hC4,hK4⟩;replace bZ:=bZ.keep hK4 (by omega);replace bS:=bS.keep hK4 (by omega);replace rD:=(rD.grow hG3).keep hK4 (fun q _ hq=>by omega);replace hGw:=hGw.keep hK4 (fun q hq e=>by omega);have hs4:=hK4.size;clear hC1 hC2 hK2 hG1 hG2 hG3 hK4 h Hw3;cases b
 case' false=>
  obtain ⟨w5,rfl⟩: ∃ z,z=w4:=⟨_,rfl⟩;have hV:VSes w5 (fun q=>w1.heap.size<=q) (.agg #[.slice da dn dc, .slice none 0 0]) D []:=⟨_,_,_,_,_,_,rfl,rD.weak fun q _ hq=>hq.1,OwP.nilw.rd fun _ h=>h⟩;have hPb:(∀ p∈([]:List (List Dfn)),Zae p<=1000)/\([]:List (List Dfn)).length<=1:=⟨fun p hp=>(by cases hp),by simp⟩;have hC5:=hC4;have hs5:w2.heap.size<w5.heap.size:=by omega
  clear rD hC4 hs4;go_wp2
 case' true=>
  go_wp2_with fail;refine (ZiQ g _ hC4).mono ?_;rintro e w6 ⟨pa,pn,pc,Q,rfl,rP,hbQ,hC6,hK6⟩;replace bZ:=(bZ.keep hK6 (by omega)).grow ((Grow.refl w6).alloc #[.slice pa pn pc] 24);replace bS:=(bS.keep hK6 (by omega)).grow ((Grow.refl w6).alloc #[.slice pa pn pc] 24);replace rD:=(rD.keep hK6 (fun q _ hq=>by omega)).grow ((Grow.refl w6).alloc #[.slice pa pn pc] 24);replace rP:=rP.grow ((Grow.refl w6).alloc #[.slice pa pn pc] 24);replace hGw:=(hGw.keep hK6 (fun q hq e=>by omega)).trans ((Grow.refl w6).alloc #[.slice pa pn pc] 24);have hC7:=hC6.grow ((Grow.refl w6).alloc #[.slice pa pn pc] 24);have hRow:Row (w6.alloc (.cells #[.slice pa pn pc] 24)) (fun q=>q=w6.heap.size) 1 (some ⟨w6.heap.size,0,none⟩) 1 1 [.slice pa pn pc]:=Row.built 1 (by unfold maxLen;omega) rfl rfl;have hs6:=hK6.size;obtain ⟨⟨s0,s1⟩,sf0,sf1⟩:=bS.two;have hltS:=bS.lt;obtain ⟨w5,hw5⟩: ∃ z,z=(w6.alloc (.cells #[.slice pa pn pc] 24)).setCell ⟨w2.heap.size,1,none⟩ (.slice (some ⟨w6.heap.size,0,none⟩) 1 1):=⟨_,rfl⟩;have hK5:Keep (fun q=>q≠w2.heap.size) (w6.alloc (.cells #[.slice pa pn pc] 24)) w5:=by rw[hw5];exact (Keep.refl _ _).setCell (fun _ e=>e rfl) _
  replace bZ:=bZ.keep hK5 (by omega);have hV:VSes w5 (fun q=>w1.heap.size<=q) (.agg #[.slice da dn dc, .slice (some ⟨w6.heap.size,0,none⟩) 1 1]) D [Q]:=
   ⟨_,_,_,_,_,_,rfl,(rD.keep hK5 fun q _ hq=>by omega).weak fun q _ hq=>hq.1,⟨⟨_,(hRow.keep hK5 fun q _ hq=>by omega).weak fun q _ hq=>by omega,SesC.snoc SesC.nil rfl ((rP.keep hK5 fun q _ hq=>by omega).weak fun q _ hq=>by omega)⟩,rfl⟩⟩
  have hPb:(∀ p∈[Q],Zae p<=1000)/\[Q].length<=1:=⟨fun p hp=>by rw[List.mem_singleton.1 hp];exact hbQ,by simp⟩;have hC5:=hC7.keep hK5 (fun q hq=>by omega);replace hGw:=hGw.keep hK5 (fun q hq=>by omega);have bS5:Blk w5 w2.heap.size #[.slice da dn dc, .slice (some ⟨w6.heap.size,0,none⟩) 1 1] 27:=by rw[hw5];exact bS.set 1 _
  have hs5:=bS5.lt;clear bS;have bS:=bS5;have Hw5:=hid hw5;clear hw5 hC4 hC6 hC7 hK6 hK5 hRow rP rD bS5;go_wp2;rw[←Hw5.out];clear s0 s1 sf0 sf1 hltS hs6 hs4
 all_goals
  have nS:w2.heap.size≠g/\w2.heap.size≠w.heap.size:=⟨by omega,by omega⟩;have nZ:w.heap.size≠g:=by omega
  refine Zg (S:=(Keep (fun q=>q≠g/\q≠w.heap.size) w5)) [([0,1],some 2),([],some 3),([4],none)] Zm (by kernel_rfl) (fun _ _ _ _ _ h=>h) (Keep.refl _ _).drew ?_;show wpQuiet _ _ _ _ [_,_] _;repeat (first |(go_big_quiet_want;refine ZA Z4 rfl rfl (fun w' hG=>bS.keep hG nS) ?_;go_big_quiet_on;simp only[putP])|go_big_quiet_step (exact fun _=>rfl))
  refine wpQuiet_nil ?_;have hGe:Grow w5 w5.drew:=(Grow.refl _).drew;refine Zf rfl (fun K hK=> ?_);go_wp2_with fail;refine (Zoi g _ (hC5.grow hGe)).mono ?_;rintro e w8 ⟨s,hs,rfl,hC8,hK8⟩;have hKd:Keep (fun q=>q≠g) w5 w8:=hGe.any.trans hK8;go_wp2_with fail;refine hK _ _ ((hKd.mono fun q _ hq=>hq.1)) ?_;clear hK K;refine wpQuiet_nil ?_;refine Zf rfl (fun K hK=> ?_);have bZ8:=bZ.keep hKd nZ;obtain ⟨⟨z0,z1⟩,zf0,zf1⟩:=bZ8.two;have hltZ:=bZ8.lt;go_wp2_with fail;refine hK _ _ ((((hKd.mono fun q _ hq=>hq.1).setCell (fun _ e=>e.2 rfl) _).setCell (fun _ e=>e.2 rfl) _)) ?_;clear hK K;show wpQuiet _ _ _ _ [_] _;try (conv=>arg 6;simp only[putP])
  repeat (first |(go_big_quiet_want;refine ZA Z4 rfl rfl (fun w' hG=>bS.keep hG nS) ?_;go_big_quiet_on;simp only[putP])|go_big_quiet_step (exact fun _=>rfl))
  refine wpQuiet_nil ?_;refine Zk ?_;go_wp2;have hKe:=fun x y=>((Keep.refl (fun q=>q≠w.heap.size) w8).setCell (p:=⟨w.heap.size,0,none⟩) (fun _ e=>e rfl) x).setCell (p:=⟨w.heap.size,1,none⟩) (fun _ e=>e rfl) y;exact Zd Z4 rfl rfl rfl ((bZ8.set 0 _).set 1 _) ⟨_,_,rfl,hs,D,_,((hV.keep hKd fun q _ hq=>by omega).keep (hKe _ _) fun q _ hq=>by omega).weak fun _ _ _=>trivial,hbD,hPb,(hGw.keep hKd fun q hq=>by omega).keep (hKe _ _) fun q hq=>by omega⟩

end Go.Proofs.YtjpcgofidijigaaGreatDoor
