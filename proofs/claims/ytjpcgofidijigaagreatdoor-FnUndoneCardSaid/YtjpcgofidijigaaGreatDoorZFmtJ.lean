/- Matrices as text: the program's FormatMatrix. -/
import Derived.Test.YtjpcgofidijigaaGreatDoorZFmtS
import Derived.Test.YtjpcgofidijigaaGreatDoorZMark
import Derived.Test.YtjpcgofidijigaaGreatDoorZFind
import Derived.Test.YtjpcgofidijigaaGreatDoorZNorm
import Derived.Test.YtjpcgofidijigaaGreatDoorZPrs
import Derived.Test.YtjpcgofidijigaaGreatDoorZEchI
import Derived.Test.YtjpcgofidijigaaGreatDoorZFacI
set_option maxHeartbeats 8000000
set_option maxRecDepth 100000
namespace Go.Proofs.YtjpcgofidijigaaGreatDoor
open Go.RowKit
open Lib (hid)
open Go.Value renaming int->Yv
open Go.IntKind renaming i64->Yi
variable {C R i k n t:Nat} {S:Nat->Prop} {a:Option Addr} {m xs:List Int} {v:Value} {w:World}
theorem Zsp (a:Option Addr) (n cp C R i:Nat) (m:List Int) (w:World) (h:RdI w S a n cp m) (hl:m.length=R*C) (hi:i<R) (hR:R<=24) (hC:C<=24):
  Calls Tryz.prog 72 #[.agg #[Yv Yi R,Yv Yi C, .slice a n cp],Yv Yi i] w fun e w'=> ∃ a1 c1,e= .returned (.slice a1 C c1)/\RdI w' S a1 C c1 ((m.drop (i*C)).take C)/\Grow w w':=by
 have hnl:=h.len;have hle:=h.row.le;have hri:i*C+C<=m.length:=by have:(i+1)*C<=R*C:=Nat.mul_le_mul_right _ hi;rw[Nat.add_mul] at this;omega
 have u1:=ZdU (i:=i) (c:=C) (by omega) (by omega);have u3:IntKind.i64.wrap (((i:Int)+1)*C)=((i:Int)+1)*C:=by have:=ZdU (i:=i+1) (c:=C) (by omega) (by omega);simpa using this
 have r:=T_ints.atLH (a:=a) (n:=n) (cap:=cp) (l:=i*C) (k:=i*C+C) (i:=(i:Int)*C) (j:=((i:Int)+1)*C) (by simp) (by rw[Int.add_mul];simp) (by omega) (by omega);have rs:=h.sub (l:=i*C) (k:=i*C+C) (by omega) (by omega);rw[show i*C+C-i*C=C by omega] at r rs;have Hl:=hid hl;have Hnl:=hid hnl;clear hl hnl hri;have hG:=(Grow.refl w).alloc #[Yv Yi (R:Int),Yv Yi (C:Int), .slice a n cp] 34;go_enter Tryz.func72,Tryz.ntmps72;go_wp2;go_ret;exact ⟨_,_,rfl,rs.grow hG,hG⟩
theorem Zqc {cells:List Int} (hl:cells.length=R*C) (h0:C=0->i=0) (hi:i=R\/C=0):ZdY C cells i=Zw C 0 cells:=by
 rcases Nat.eq_zero_or_pos C with e|e
 ·subst e;obtain rfl:cells=[]:=by simpa using hl
  rw[h0 rfl];simp[ZdY,Zdz,Zw,Lib.join_nil]
 ·obtain rfl:i=R:=by omega
  have:=Zh3 e (cells:=cells) i (by omega);rw[←hl,List.take_length] at this;exact this.symm
theorem Zca {m:Mat} (h:VM w S v m) (hb:bdM m<=2097152) (ht:Tab w):
  Calls Tryz.prog 41 #[v] w fun e w'=>e= .returned (.string (Zb (ZaL m)))/\Grow w w':=by
 have hVM:=h;obtain ⟨a,n,c,rfl,h,hr,hc⟩:=h;have hl:=h.len;have hG1:=(Grow.refl w).alloc #[Yv Yi m.rows,Yv Yi m.cols, .slice a n c] 34;have bM:=Blk.new w #[Yv Yi m.rows,Yv Yi m.cols, .slice a n c] 34;obtain ⟨⟨m0,m1,m2⟩, -⟩:=bM.three;have Ht:=hid ht;clear ht;cases hok:Ze m with
 |false=>have Hz:=hid (ZhK hok);go_enter Tryz.func41,Tryz.ntmps41;go_wp2_with fail;refine (Zz (hVM.grow hG1) hb).mono ?_;rw[hok];rintro e w2 ⟨rfl,hG2⟩;clear hok;go_wp2;go_ret;exact ⟨by rw[Hz.out];rfl,hG1.trans hG2⟩
 |true=>
  obtain ⟨R,C,hR,hC,hR24,hC24,hlen,hnum⟩:=Zn hok;obtain ⟨r,k,cells⟩:=m;simp only at hR hC hl hlen hnum;subst hR;subst hC;have hn:n<=576:=by have:R*C<=24*24:=Nat.mul_le_mul hR24 hC24;omega
  have Hfm:=hid (Zfm hok);have hhl:=Zkd hR24 hC24;have Hhead:=hid (show Zb (Lib.itoa R)++⟨#[120]⟩++Zb (Lib.itoa C)++⟨#[91]⟩=Zb (ZbT R C) by
   show Zb _++Zb [120]++Zb _++Zb [91]=_;rw[Zq,Zq,Zq];simp[ZbT])
  have a10:=Zan (n:=(R:Int)) (by omega) (by omega);have b10:=Zan (n:=(C:Int)) (by omega) (by omega);have Hln:=hid hlen;have Hnum:=hid hnum;have Hok:=hid hok;have Hl:=hid hl;clear hlen hnum hl;go_enter Tryz.func41,Tryz.ntmps41;go_wp2_with fail;refine (Zz (hVM.grow hG1) hb).mono ?_;rw[hok];rintro e w2 ⟨rfl,hG2⟩;have bM2:=bM.grow hG2;have hG12:=hG1.trans hG2;clear hok m0 m1 m2;go_wp2;go_loopw [3,4] (fun ov iv wr=>Grow w wr/\ ∃ (i:Nat) (a':Option Addr) (c':Nat),i<=R/\(C=0->i=0)/\iv=Yv Yi i/\ov= .slice a' i c'/\Own wr 9 1 a' i c' (strs (((Zdz C cells i).map ZbE).map Zb))/\(∀ g,blk a'=some g->w.heap.size<g)/\Blk wr w.heap.size #[Yv Yi R,Yv Yi C, .slice a n c] 34) (fun _ iv _=>R-(intOf iv).toNat);case atStart=>exact ⟨hG12.alloc _ _,0,_,0,Nat.zero_le _,fun _=>rfl,rfl,rfl,Own.fresh (by unfold maxLen;omega) rfl,fun g hg=>by have:=bM2.lt;simp at hg;omega,bM2.alloc _⟩
  case round=>
   clear bM2;obtain ⟨hG,i,a',c',hi,hz,rfl,rfl,hO,hlo,bMr⟩:=hrel;obtain ⟨⟨m0,m1,m2⟩, -⟩:=bMr.three;have hltM:=bMr.lt;have Hz:=hid hz;clear hz;by_cases hgo:i<R/\0<C
   ·obtain ⟨hlt,hC0⟩:=hgo;go_wp2_with fail;refine (Zsp a n c C R i cells _ (h.grow hG) Hln.out hlt hR24 hC24).mono ?_;rintro e w3 ⟨sa,sc,rfl,rr,hG3⟩;go_wp2_with fail;refine (ZgP sa C sc _ _ rr (by omega) (Ht.out.grow (hG.trans hG3))).mono ?_;rintro e w4 ⟨rfl,hG4⟩;have hG34:=hG3.trans hG4;obtain ⟨F,hF⟩: ∃ F,F=ZbE ((cells.drop (i*C)).take C):=⟨_,rfl⟩;rw[←hF];have HF:=hid hF;clear hF;have hO4:=(hO.grow hG34).grow ((Grow.refl w4).alloc #[.string (Zb F)] 9);have bM4:=bMr.grow hG34;clear m0 m1 m2;go_wp2_with (at_builtin;refine Zx rfl (.tmp 20) (.tmp 25) _ rfl T_strs rfl hO4 rfl (Row.built (S:=fun _=>True) 1 (by unfold maxLen;omega) rfl trivial) (by simp[Value.oneCell']) (by omega) (by unfold maxLen;omega) ?_;intro a3 c3 w5 hA3);have hsw:=hG.size;have hsw2:=hG34.size;have hG5:Grow w w5:=hA3.grow ((hG.trans hG34).alloc _ _) fun g hg=>Nat.le_of_lt (hlo g hg);have hl3:=hA3.lo (B:=w.heap.size+1) (by simp;omega) hlo;have bM5:=(bM4.alloc (.cells #[.string (Zb F)] 9)).keep hA3.keep (fun e=>by have:=hlo _ e;omega);have hO3:=hA3.own;clear hA3 hO hO4;go_wp2;go_roundw;case rel=>exact ⟨hG5,i+1,a3,c3,by omega,fun e=>by omega,by go_num,rfl,by rw[Zdz,List.map_append,List.map_append];simpa [strs,HF.out] using hO3,hl3,bM5⟩
    case measure=>simp[intOf];omega
   ·have hend:=Zqc (i:=i) Hln.out Hz.out (by omega);have Hend:=hid hend;clear hend;have hBl:(ZdY C cells i).length<=6400:=(by rw[Hend.out];have h1:=Zdr (C:=C) (l:=cells) (k:=0) Hnum.out;have:=Hl.out;omega);by_cases hiR:i<R
    ·have q0:decide (0<C)=false:=(by simp;omega);go_wp2;refine Zg (S:=Grow wr) [([0,1,4,5,9],some 2),([3],some 6),([7,8],some 10),([11,12,13],none)] Zm (by kernel_rfl) (fun _ _ _ _ _ h=>h) (Grow.refl _).drew ?_;show wpQuiet _ _ _ _ [_,_,_,_,_] _;(repeat (first |(go_big_quiet_want;(first |refine Za Zv rfl rfl (fun w' hG=>hG.cell m0) ?_|refine Za Zv rfl rfl (fun w' hG=>hG.cell m1) ?_);go_big_quiet_on;simp only[putP])|go_big_quiet_step (exact fun _=>rfl)));refine wpQuiet_nil ?_;refine Zf rfl (fun K hK=> ?_);go_wp2_with fail;refine (ZaR R _ (by unfold I64;omega) (Ht.out.grow hG.drew)).mono ?_;rintro e w3 ⟨rfl,hG3⟩;have hGa:=(Grow.refl wr).drew.trans hG3;go_wp2_with fail;refine hK _ _ (hGa) ?_;clear hK K;show wpQuiet _ _ _ _ [_] _;(try (conv=>arg 6;simp only[putP]));(repeat (first |(go_big_quiet_want;(first |refine Za Zv rfl rfl (fun w' hG=>hG.cell m0) ?_|refine Za Zv rfl rfl (fun w' hG=>hG.cell m1) ?_);go_big_quiet_on;simp only[putP])|go_big_quiet_step (exact fun _=>rfl)));refine wpQuiet_nil ?_;refine Zf rfl (fun K hK=> ?_);go_wp2_with fail;refine (ZaR C _ (by unfold I64;omega) (Ht.out.grow (hG.trans hGa))).mono ?_;rintro e w4 ⟨rfl,hG4⟩;have hGb:=hGa.trans hG4;go_wp2_with fail;refine hK _ _ (hGb) ?_;clear hK K;show wpQuiet _ _ _ _ [_,_] _;(try (conv=>arg 6;simp only[putP]));(repeat (first |(go_big_quiet_want;(first |refine Za Zv rfl rfl (fun w' hG=>hG.cell m0) ?_|refine Za Zv rfl rfl (fun w' hG=>hG.cell m1) ?_);go_big_quiet_on;simp only[putP])|go_big_quiet_step (exact fun _=>rfl)));refine wpQuiet_nil ?_;rw[Hhead.out];have hj:Lib.join ((((Zdz C cells i).map ZbE).map Zb).map (·.data.toList)) (Zb [59]).data.toList=ZdY C cells i:=(by rw[Zhk];rfl);have hJ:=Zmq a' i c' _ (Zb [59]) w4 ((hO.grow hGb).rdS (S:=fun _=>True) fun _ _=>trivial) (by omega) (by rw[hj];omega);rw[hj] at hJ;obtain ⟨B,hB⟩: ∃ B,B=ZdY C cells i:=⟨_,rfl⟩;rw[←hB] at hJ hBl Hend;have HJ:=hid hJ;clear hj hJ hO hB;refine Zf rfl (fun K hK=> ?_);go_wp2_with fail;refine HJ.out.mono ?_;rintro e w5 ⟨rfl,hG5⟩;have hGc:=hGb.trans hG5;obtain ⟨H,hH⟩: ∃ H,H=ZbT R C:=⟨_,rfl⟩;rw[←hH] at hhl Hfm ⊢;clear hH;go_wp2_with fail;refine hK _ _ (hGc) ?_;clear hK K;show wpQuiet _ _ _ _ [_,_,_] _;(try (conv=>arg 6;simp only[putP]));(repeat (first |(go_big_quiet_want;(first |refine Za Zv rfl rfl (fun w' hG=>hG.cell m0) ?_|refine Za Zv rfl rfl (fun w' hG=>hG.cell m1) ?_);go_big_quiet_on;simp only[putP])|go_big_quiet_step (exact fun _=>rfl)));refine wpQuiet_nil ?_;refine Zk ?_;go_wp2;go_ret;refine ⟨?_,hG.trans hGc⟩;rw[Hfm.out, ←Hend.out];show Ending.returned (Value.string (Zb H++Zb B++Zb [93]))=_;rw[Zq,Zq]
    ·skip
     go_wp2;refine Zg (S:=Grow wr) [([0,1,4,5,9],some 2),([3],some 6),([7,8],some 10),([11,12,13],none)] Zm (by kernel_rfl) (fun _ _ _ _ _ h=>h) (Grow.refl _).drew ?_;show wpQuiet _ _ _ _ [_,_,_,_,_] _;(repeat (first |(go_big_quiet_want;(first |refine Za Zv rfl rfl (fun w' hG=>hG.cell m0) ?_|refine Za Zv rfl rfl (fun w' hG=>hG.cell m1) ?_);go_big_quiet_on;simp only[putP])|go_big_quiet_step (exact fun _=>rfl)));refine wpQuiet_nil ?_;refine Zf rfl (fun K hK=> ?_);go_wp2_with fail;refine (ZaR R _ (by unfold I64;omega) (Ht.out.grow hG.drew)).mono ?_;rintro e w3 ⟨rfl,hG3⟩;have hGa:=(Grow.refl wr).drew.trans hG3;go_wp2_with fail;refine hK _ _ (hGa) ?_;clear hK K;show wpQuiet _ _ _ _ [_] _;(try (conv=>arg 6;simp only[putP]));(repeat (first |(go_big_quiet_want;(first |refine Za Zv rfl rfl (fun w' hG=>hG.cell m0) ?_|refine Za Zv rfl rfl (fun w' hG=>hG.cell m1) ?_);go_big_quiet_on;simp only[putP])|go_big_quiet_step (exact fun _=>rfl)));refine wpQuiet_nil ?_;refine Zf rfl (fun K hK=> ?_);go_wp2_with fail;refine (ZaR C _ (by unfold I64;omega) (Ht.out.grow (hG.trans hGa))).mono ?_;rintro e w4 ⟨rfl,hG4⟩;have hGb:=hGa.trans hG4;go_wp2_with fail;refine hK _ _ (hGb) ?_;clear hK K;show wpQuiet _ _ _ _ [_,_] _;(try (conv=>arg 6;simp only[putP]));(repeat (first |(go_big_quiet_want;(first |refine Za Zv rfl rfl (fun w' hG=>hG.cell m0) ?_|refine Za Zv rfl rfl (fun w' hG=>hG.cell m1) ?_);go_big_quiet_on;simp only[putP])|go_big_quiet_step (exact fun _=>rfl)));refine wpQuiet_nil ?_;rw[Hhead.out];have hj:Lib.join ((((Zdz C cells i).map ZbE).map Zb).map (·.data.toList)) (Zb [59]).data.toList=ZdY C cells i:=(by rw[Zhk];rfl);have hJ:=Zmq a' i c' _ (Zb [59]) w4 ((hO.grow hGb).rdS (S:=fun _=>True) fun _ _=>trivial) (by omega) (by rw[hj];omega);rw[hj] at hJ;obtain ⟨B,hB⟩: ∃ B,B=ZdY C cells i:=⟨_,rfl⟩;rw[←hB] at hJ hBl Hend;have HJ:=hid hJ;clear hj hJ hO hB;refine Zf rfl (fun K hK=> ?_);go_wp2_with fail;refine HJ.out.mono ?_;rintro e w5 ⟨rfl,hG5⟩;have hGc:=hGb.trans hG5;obtain ⟨H,hH⟩: ∃ H,H=ZbT R C:=⟨_,rfl⟩;rw[←hH] at hhl Hfm ⊢;clear hH;go_wp2_with fail;refine hK _ _ (hGc) ?_;clear hK K;show wpQuiet _ _ _ _ [_,_,_] _;(try (conv=>arg 6;simp only[putP]));(repeat (first |(go_big_quiet_want;(first |refine Za Zv rfl rfl (fun w' hG=>hG.cell m0) ?_|refine Za Zv rfl rfl (fun w' hG=>hG.cell m1) ?_);go_big_quiet_on;simp only[putP])|go_big_quiet_step (exact fun _=>rfl)));refine wpQuiet_nil ?_;refine Zk ?_;go_wp2;go_ret;refine ⟨?_,hG.trans hGc⟩;rw[Hfm.out, ←Hend.out];show Ending.returned (Value.string (Zb H++Zb B++Zb [93]))=_;rw[Zq,Zq]
theorem SepR.at {F:Nat->Prop} {cap:Nat} {l:List Rs} (h:SepR w F a n cap l) (hk:k<n):
  ∃ b off r a1 c1,a=some ⟨b,off,none⟩/\l[k]? =some r/\b<w.heap.size/\RAt w b (off+k*4) r (.slice a1 (rsM r).cells.length c1)/\Own w 3 1 a1 (rsM r).cells.length c1 (ints (rsM r).cells)/\(∀ x∈(rsM r).cells,I64 x)/\(∀ g,blk a1=some g->F g)/\ROk r:=by
 obtain ⟨⟨ss,h1,h2⟩,hl,ho, -⟩:=h;have hlt:k<l.length:=by omega
 have hk':l[k]? =some l[k]:=List.getElem?_eq_getElem hlt;obtain ⟨a1,c1,h3,h4,h5,h6⟩:=h2.each _ _ (Zcp hk');obtain ⟨b,off,ha, -,hc⟩:=(h1.row (S:=fun _=>True) fun _ _=>trivial).addr (by
  intro e;have:=ZdL (j:=0) hk' h3 (by omega);rw[e] at this;simp[Zce] at this)
 have key: ∀ j v,j<4->(Zce l[k] (.slice a1 (rsM l[k]).cells.length c1))[j]? =some v->w.cell? ⟨b,off+k*4+j,none⟩=some v:=fun j v hj hv=>by rw[Nat.add_assoc];exact hc _ _ (by rw[ZdL hk' h3 hj];exact hv)
 have k0:=key 0 _ (by omega) rfl;exact ⟨b,off,l[k],a1,c1,ha,hk',World.block_lt_of_cell? w _ k0,⟨k0,key 1 _ (by omega) rfl,key 2 _ (by omega) rfl,key 3 _ (by omega) rfl⟩,h4,h5,fun g hg=>(h6 g hg).1,ho _ (List.getElem_mem hlt)⟩
theorem ZgB {D:List Dfn} {P:List (List Dfn)} {name:ByteArray} (h:VSes w S v D P) (hb:D.length<=1048576) (hcl: ∀ d∈D,d.value.cells.length<=2097152):
  Calls Tryz.prog 18 #[v, .string name] w fun e w'=> ∃ a n c, ∃ m:Mat, ∃ ok,e= .returned (.tuple #[.agg #[Yv Yi m.rows,Yv Yi m.cols, .slice a n c], .bool ok])/\Own w' 3 1 a n c (ints m.cells)/\(∀ x∈m.cells,I64 x)/\I64 m.rows/\I64 m.cols/\m.cells.length<=1048576/\Grow w w':=by
 obtain ⟨xa,xn,xc,pa,n,pc,rfl,hD, -⟩:=h;have hDl:=hD.len;obtain ⟨w1,hw1,hG,bX,bZ, -⟩:=al2 w #[.slice xa xn xc, .slice pa n pc] 27 #[Yv Yi 0,Yv Yi 0, .slice none 0 0] 34;have hs1:=bZ.lt;obtain ⟨⟨x0,x1⟩, -⟩:=bX.two;have hlX:=bX.lt;rw[hw1] at x0 x1 hlX;have Hw1:=hid hw1;have Hcl:=hid hcl;replace hD:=hD.grow hG;clear hw1 hcl;go_enter Tryz.func18,Tryz.ntmps18;go_wp2_with fail;rw[←Hw1.out];refine (Zsg hD (by omega) Hcl.out).mono ?_;rintro e w2 ⟨ea,ec,rfl,hE,hG2,hEb⟩;clear x0 x1 hlX;replace bX:=bX.grow hG2;replace bZ:=bZ.grow hG2;replace hD:=hD.grow hG2;replace hG:=hG.trans hG2;have hEr:=hE;have HEb:=hid hEb;obtain ⟨⟨x0,x1⟩, -⟩:=bX.two;have hlX:=bX.lt;clear hE hEb hG2;go_wp2_with fail;refine (Zc2 _ _ _ D name _ hD (by omega)).mono ?_;rintro e w3 ⟨rfl,hG3⟩;replace bZ:=bZ.grow hG3;replace hG:=hG.trans hG3;replace hEr:=hEr.grow hG3;clear x0 x1 hlX bX hD hG3;have hle:w.heap.size<=w.heap.size+1:=by omega
 obtain ⟨⟨z0,z1,z2⟩,zf0,zf1,zf2⟩:=bZ.three;have hltZ:=bZ.lt;obtain ⟨L,hL⟩: ∃ L,L=(Zcd D).length:=⟨_,rfl⟩;rw[←hL] at hEr ⊢;clear hL;by_cases h0:ZD D name<0
 case' pos=>have q1:decide (ZD D name<0)=true:=decide_eq_true h0;clear h0;generalize ZD D name=fnv at *
 case' neg=>
  obtain ⟨p,hp⟩: ∃ p:Nat,ZD D name=p:=⟨(ZD D name).toNat,by omega⟩;rw[hp];clear hp h0;by_cases h1:p<L
  case' pos=>
   obtain ⟨b1,o1,r,ra,rc,rfl,hr,hb1,⟨y0,y1,y2,y3⟩,rI,rg,rF,rk⟩:=hEr.at h1;have hbr:=(HEb.out _ (List.mem_of_getElem? hr));have rk1:I64 (rsM r).rows:=rk.1;have rk2:I64 (rsM r).cols:=rk.2;clear hr rk;generalize rsM r=m at *;cases hf:r.isSome
   case' true=>rw[hf] at y3;go_wp2;have hK:Keep (fun q=>q≠w.heap.size+1) w3 (((w3.setCell ⟨w.heap.size+1,0,none⟩ (Yv Yi m.rows)).setCell ⟨w.heap.size+1,1,none⟩ (Yv Yi m.cols)).setCell ⟨w.heap.size+1,2,none⟩ (.slice ra m.cells.length rc)):=(((Keep.refl _ w3).setCell (fun _ e=>e rfl) _).setCell (fun _ e=>e rfl) _).setCell (fun _ e=>e rfl) _;exact Zd Zc rfl rfl rfl (((bZ.set 0 _).set 1 _).set 2 _) ⟨ra,m.cells.length,rc,m,true,rfl,rI.keep hK (fun q hq _ e=>by have:=rF q hq;omega),rg,rk1,rk2,hbr,((hG.setCell hle _).setCell hle _).setCell hle _⟩
   case' false=>rw[hf] at y3
 all_goals go_wp2;exact Zd Zc rfl rfl rfl (((bZ.set 0 _).set 1 _).set 2 _) ⟨none,0,0,rsZ,false,rfl,Own.nilw,(fun x hx=>by simp[rsZ] at hx),by unfold rsZ I64;simp,by unfold rsZ I64;simp,by simp[rsZ],((hG.setCell hle _).setCell hle _).setCell hle _⟩
def Zbt (m:List Int) (C i:Nat) (x:Nat->Int):Nat->Int
 |0=>0
 |n+1=>Zbt m C i x n+cell m C i n*x n
def ZcN (m:List Int) (C R:Nat) (x:Nat->Int):Prop:= ∀ i,i<R->Zbt m C i x C=0
theorem Za3 {m m':List Int} {C i i':Nat} {x:Nat->Int}: ∀ {n:Nat},(∀ k,k<n->cell m C i k=cell m' C i' k)->Zbt m C i x n=Zbt m' C i' x n
 |0,_=>rfl
 |n+1,h=>by simp only[Zbt];rw[Za3 (fun k hk=>h k (by omega)),h n (by omega)]
theorem Zgy {m m':List Int} {C i i':Nat} {d:Int} {x:Nat->Int}: ∀ {n:Nat},(∀ k,k<n->cell m C i k=d*cell m' C i' k)->Zbt m C i x n=d*Zbt m' C i' x n
 |0,_=>by simp[Zbt]
 |n+1,h=>by simp only[Zbt];rw[Zgy (fun k hk=>h k (by omega)),h n (by omega),Int.mul_add,Int.mul_assoc]
theorem Ziy {m m':List Int} {C i i' t:Nat} {a b:Int} {x:Nat->Int}: ∀ {n:Nat},(∀ k,k<n->cell m' C i' k=a*cell m C i k-b*cell m C t k)->Zbt m' C i' x n=a*Zbt m C i x n-b*Zbt m C t x n
 |0,_=>by simp[Zbt]
 |n+1,h=>by simp only[Zbt];rw[Ziy (fun k hk=>h k (by omega)),h n (by omega),Int.mul_add,Int.mul_add,Int.sub_mul,Int.mul_assoc,Int.mul_assoc];omega
theorem Ziv {m:List Int} {C i:Nat}: ∀ {n k:Nat},k<n->((ZaM m C i n:Nat):Int)∣cell m C i k
 |0,_,h=>by omega
 |n+1,k,h=>by
  simp only[ZaM];by_cases e:k=n
  ·subst e;exact Int.ofNat_dvd_left.2 (Nat.gcd_dvd_right _ _)
  ·exact Int.dvd_trans (Int.natCast_dvd_natCast.2 (Nat.gcd_dvd_left _ _)) (Ziv (by omega))
theorem ZoV (hk:k<C):ZbV m C i∣cell m C i k:=by
 unfold ZbV;split
 ·exact Ziv hk
 ·exact Int.neg_dvd.2 (Ziv hk)
theorem ZqY (h:ZaM m C i C≠0):ZbV m C i≠0:=by
 unfold ZbV;split<;>omega
theorem Zov (hk:k<C):cell m C i k=ZbV m C i*ZaA m C i k:=by
 unfold ZaA;rw[Int.mul_tdiv_cancel' (ZoV hk)]
theorem Zks (hl:m.length=R*C) (hi:i<R): ∃ d:Int,d≠0/\(∀ k,k<C->cell m C i k=d*cell (Zbj m C i) C i k)/\ ∀ i' k,k<C->i'≠i->cell (Zbj m C i) C i' k=cell m C i' k:=by
 unfold Zbj;by_cases h0:ZaM m C i C=0
 ·rw[if_pos h0];exact ⟨1,by decide,fun k _=>by omega,fun _ _ _ _=>rfl⟩
 ·rw[if_neg h0];refine ⟨ZbV m C i,ZqY h0,fun k hk=> ?_,fun i' k hk hne=> ?_⟩
  ·rw[Ze0 hl hi hk,if_pos rfl];exact Zov hk
  ·rw[Ze0 hl hi hk,if_neg hne]
theorem Zka {m':List Int} {d:Int} (hd:d≠0) (h1: ∀ k,k<C->cell m C i k=d*cell m' C i k) (h2: ∀ i' k,k<C->i'≠i->cell m' C i' k=cell m C i' k) (x:Nat->Int):ZcN m C R x↔ZcN m' C R x:=by
 constructor
 ·intro h i' hi';by_cases e:i'=i
  ·subst e;have h3:=h i' hi';rw[Zgy h1] at h3;rcases Int.mul_eq_zero.1 h3 with h3|h3
   ·exact (hd h3).elim
   ·exact h3
  ·rw[Za3 (fun k hk=>h2 i' k hk e)];exact h i' hi'
 ·intro h i' hi';by_cases e:i'=i
  ·subst e;rw[Zgy h1,h i' hi',Int.mul_zero]
  ·rw[Za3 (fun k hk=>(h2 i' k hk e).symm)];exact h i' hi'
theorem Zia {m:List Int} {C R:Nat} (hl:m.length=R*C) (x:Nat->Int): ∀ {n:Nat},n<=R->(ZcN m C R x↔ZcN (ZaH m C n) C R x)
 |0,_=>Iff.rfl
 |n+1,h=>by simp only[ZaH];obtain ⟨d,hd,h1,h2⟩:=Zks (m:=ZaH m C n) (C:=C) (R:=R) (i:=n) (by rw[Zd5];exact hl) h;exact (Zia hl x (by omega)).trans (Zka hd h1 h2 x)
theorem ZnB {j:Nat} (hl:m.length=R*C) (hi:i<R) (ht:t<R) (hne:i≠t) (hj:j<C) (hc:cell m C t j≠0):
  (∀ x,ZcN m C R x↔ZcN (Zcc m C i t j) C R x)/\cell (Zcc m C i t j) C i j=0/\(∀ i' k,k<C->i'≠i->cell (Zcc m C i t j) C i' k=cell m C i' k)/\ ∀ k,k<C->cell m C t k=0->(cell (Zcc m C i t j) C i k=0↔cell m C i k=0):=by
 have hg:elG m C i t j≠0:=by unfold elG gI Int.gcd;have:=Nat.gcd_pos_of_pos_right (cell m C i j).natAbs (show 0<(cell m C t j).natAbs by omega);omega
 have hgt:elG m C i t j∣cell m C t j:=by unfold elG gI;exact Int.gcd_dvd_right _ _
 have hgi:elG m C i t j∣cell m C i j:=by unfold elG gI;exact Int.gcd_dvd_left _ _
 obtain ⟨ct,hct⟩: ∃ ct,ct=(cell m C t j).tdiv (elG m C i t j):=⟨_,rfl⟩;obtain ⟨ci,hci⟩: ∃ ci,ci=(cell m C i j).tdiv (elG m C i t j):=⟨_,rfl⟩;have ect:elG m C i t j*ct=cell m C t j:=by rw[hct];exact Int.mul_tdiv_cancel' hgt
 have eci:elG m C i t j*ci=cell m C i j:=by rw[hci];exact Int.mul_tdiv_cancel' hgi
 have hct0:ct≠0:=fun e=>by rw[e,Int.mul_zero] at ect;exact hc ect.symm
 obtain ⟨m1,hm1⟩: ∃ m1,m1=ZC (elW m C i t j) (i*C) C m:=⟨_,rfl⟩;have hl1:m1.length=R*C:=by rw[hm1,ZL];exact hl
 have c1: ∀ i' k,k<C->cell m1 C i' k=if i'=i then ct*cell m C i k-ci*cell m C t k else cell m C i' k:=fun i' k hk=>by
  rw[hm1,Ze0 hl hi hk];split
  ·unfold elW;rw[←hct, ←hci]
  ·rfl
 obtain ⟨d,hd,h1,h2⟩:=Zks (m:=m1) (C:=C) (R:=R) (i:=i) hl1 hi;have hE:Zcc m C i t j=Zbj m1 C i:=by unfold Zcc;rw[←hm1]
 rw[hE];have k1: ∀ x,ZcN m C R x↔ZcN m1 C R x:=fun x=>by
  constructor
  ·intro h i' hi';by_cases e:i'=i
   ·subst e;rw[Ziy (a:=ct) (b:=ci) (i:=i') (t:=t) (m:=m) (fun k hk=>by rw[c1 i' k hk,if_pos rfl]),h i' hi',h t ht];omega
   ·rw[Za3 (m':=m) (i':=i') (fun k hk=>by rw[c1 i' k hk,if_neg e])];exact h i' hi'
  ·intro h i' hi';have hrt:Zbt m C t x C=0:=(by have:=h t ht;rw[Za3 (m':=m) (i':=t) (fun k hk=>by rw[c1 t k hk,if_neg (by omega)])] at this;exact this);by_cases e:i'=i
   ·subst e;have h3:=h i' hi';rw[Ziy (a:=ct) (b:=ci) (i:=i') (t:=t) (m:=m) (fun k hk=>by rw[c1 i' k hk,if_pos rfl]),hrt,Int.mul_zero,Int.sub_zero] at h3;rcases Int.mul_eq_zero.1 h3 with h3|h3
    ·exact (hct0 h3).elim
    ·exact h3
   ·have h3:=h i' hi';rw[Za3 (m':=m) (i':=i') (fun k hk=>by rw[c1 i' k hk,if_neg e])] at h3;exact h3
 have hz: ∀ k,k<C->(cell (Zbj m1 C i) C i k=0↔cell m1 C i k=0):=fun k hk=>by
  rw[h1 k hk];constructor
  ·intro e;rw[e,Int.mul_zero]
  ·intro e;rcases Int.mul_eq_zero.1 e with e|e
   ·exact (hd e).elim
   ·exact e
 refine ⟨fun x=>(k1 x).trans (Zka hd h1 h2 x), ?_,fun i' k hk hne'=> ?_,fun k hk h0=> ?_⟩
 ·rw[hz j hj,c1 i j hj,if_pos rfl, ←ect, ←eci,Int.mul_left_comm,Int.mul_left_comm ci,Int.mul_comm ci ct];omega
 ·rw[h2 i' k hk hne',c1 i' k hk,if_neg hne']
 ·rw[hz k hk,c1 i k hk,if_pos rfl,h0,Int.mul_zero,Int.sub_zero];constructor
  ·intro e;rcases Int.mul_eq_zero.1 e with e|e
   ·exact (hct0 e).elim
   ·exact e
  ·intro e;rw[e,Int.mul_zero]
theorem ZkI {C R j t:Nat} (ht:t<R) (hj:j<C): ∀ {n:Nat} {m m':List Int},n<=R->m.length=R*C->cell m C t j≠0->Z0 C j t n m=some m'->
  m'.length=R*C/\(∀ x,ZcN m C R x↔ZcN m' C R x)/\(∀ k,k<C->cell m' C t k=cell m C t k)/\(∀ i,i<n->i≠t->cell m' C i j=0)/\(∀ i k,k<C->cell m C t k=0->(cell m' C i k=0↔cell m C i k=0))
 |0,m,m',_,hl,hc,h=>by obtain rfl:=Option.some.inj (show some m=some m' from h);exact ⟨hl,fun _=>Iff.rfl,fun _ _=>rfl,fun i hi=>by omega,fun _ _ _ _=>Iff.rfl⟩
 |n+1,m,m',hn,hl,hc,h=>by
  simp only[Z0] at h;cases he:Z0 C j t n m with
  |none=>rw[he] at h;cases h
  |some m1=>
   rw[he] at h;obtain ⟨a1,a2,a3,a4,a5⟩:=ZkI ht hj (by omega) hl hc he;simp only at h;by_cases h1:n=t\/cell m1 C n j=0
   ·rw[if_pos h1] at h;obtain rfl:=Option.some.inj h;refine ⟨a1,a2,a3,fun i hi hne=> ?_,a5⟩;by_cases e:i=n
    ·subst e;rcases h1 with h1|h1
     ·exact (hne h1).elim
     ·exact h1
    ·exact a4 i (by omega) hne
   ·rw[if_neg h1] at h;by_cases h2:ZcX m1 C n t j=true
    ·rw[if_pos h2] at h;obtain rfl:=Option.some.inj h;have hnt:n≠t:=fun e=>h1 (.inl e);obtain ⟨b1,b2,b3,b4⟩:=ZnB a1 (by omega) ht hnt hj (by rw[a3 j hj];exact hc);refine ⟨by rw[ZjW];exact a1,fun x=>(a2 x).trans (b1 x),fun k hk=>by rw[b3 t k hk (Ne.symm hnt),a3 k hk],fun i hi hne=> ?_,fun i k hk h0=> ?_⟩
     ·by_cases e:i=n
      ·subst e;exact b2
      ·rw[b3 i j hj e];exact a4 i (by omega) hne
     ·by_cases e:i=n
      ·subst e;rw[b4 k hk (by rw[a3 k hk];exact h0)];exact a5 i k hk h0
      ·rw[b3 i k hk e];exact a5 i k hk h0
    ·rw[if_neg h2] at h;cases h
theorem Ziw {m:List Int} {C j:Nat}: ∀ {n k:Nat},(elK m C j n k=k+n/\ ∀ i,k<=i->i<k+n->cell m C i j=0)\/(k<=elK m C j n k/\elK m C j n k<k+n/\cell m C (elK m C j n k) j≠0)
 |0,k=> .inl ⟨rfl,fun i h1 h2=>by omega⟩
 |n+1,k=>by
  simp only[elK];by_cases h:cell m C k j=0
  ·rw[if_pos h];rcases Ziw (m:=m) (C:=C) (j:=j) (n:=n) (k:=k+1) with ⟨h1,h2⟩|⟨h1,h2,h3⟩
   ·refine .inl ⟨by omega,fun i h3 h4=> ?_⟩;by_cases e:i=k
    ·subst e;exact h
    ·exact h2 i (by omega) (by omega)
   ·exact .inr ⟨by omega,by omega,h3⟩
  ·rw[if_neg h];exact .inr ⟨Nat.le_refl _,by omega,h⟩
theorem Zot (hl:m.length=R*C) (ht:t<R) (hk:k<R):(ZaV m C t k).length=R*C/\(∀ x,ZcN m C R x↔ZcN (ZaV m C t k) C R x)/\ ∀ i c,c<C->cell (ZaV m C t k) C i c=if i=k then cell m C t c else if i=t then cell m C k c else cell m C i c:=by
 unfold ZaV;by_cases e:k=t
 ·rw[if_pos e];subst e;refine ⟨hl,fun _=>Iff.rfl,fun i c _=> ?_⟩;by_cases e2:i=k
  ·rw[if_pos e2,e2]
  ·rw[if_neg e2,if_neg e2]
 ·rw[if_neg e];have hc: ∀ i c,c<C->cell (swR m C k t) C i c=if i=k then cell m C t c else if i=t then cell m C k c else cell m C i c:=fun i c h=>Ze5 hl hk ht e h;refine ⟨by unfold swR;rw[Zbe];exact hl,fun x=> ?_,hc⟩;have h1:Zbt (swR m C k t) C k x C=Zbt m C t x C:=Za3 fun c h=>by rw[hc k c h,if_pos rfl]
  have h2:Zbt (swR m C k t) C t x C=Zbt m C k x C:=Za3 fun c h=>by rw[hc t c h,if_neg (Ne.symm e),if_pos rfl]
  have h3: ∀ i,i≠k->i≠t->Zbt (swR m C k t) C i x C=Zbt m C i x C:=fun i n1 n2=>Za3 fun c h=>by rw[hc i c h,if_neg n1,if_neg n2]
  constructor
  ·intro h i hi;by_cases e1:i=k
   ·rw[e1,h1];exact h t ht
   ·by_cases e2:i=t
    ·rw[e2,h2];exact h k hk
    ·rw[h3 i e1 e2];exact h i hi
  ·intro h i hi;by_cases e1:i=k
   ·rw[e1, ←h2];exact h t ht
   ·by_cases e2:i=t
    ·rw[e2, ←h1];exact h k hk
    ·rw[←h3 i e1 e2];exact h i hi
structure Pvs (C R:Nat) (m:List Int) (j t:Nat) (p:Nat->Nat):Prop where
 len:m.length=R*C
 le:t<=R
 piv: ∀ l,l<t->p l<j/\cell m C l (p l)≠0/\ ∀ i,i<R->i≠l->cell m C i (p l)=0
 low: ∀ i,t<=i->i<R-> ∀ k,k<j->cell m C i k=0
theorem ZiF {C R:Nat}: ∀ {n j t:Nat} {m m':List Int} {p:Nat->Nat} {T:Nat},j+n=C->Pvs C R m j t p->ecN C R n j t m=some (T,m')->(∀ x,ZcN m C R x↔ZcN m' C R x)/\ ∃ p',Pvs C R m' C T p'
 |0,j,t,m,m',p,T,hj,hP,h=>by
  obtain ⟨rfl,rfl⟩:=Prod.mk.inj (Option.some.inj (show some (t,m)=some (T,m') from h));obtain rfl:j=C:=by omega
  exact ⟨fun _=>Iff.rfl,p,hP⟩
 |n+1,j,t,m,m',p,T,hj,hP,h=>by
  by_cases htR:t<R
  ·by_cases hk:elK m C j (R-t) t=R
   ·rw[ZlO htR rfl hk] at h;refine ZiF (p:=p) (by omega) ⟨hP.len,hP.le,fun l hl=> ?_,fun i h1 h2 k h3=> ?_⟩ h
    ·obtain ⟨q1,q2,q3⟩:=hP.piv l hl;exact ⟨by omega,q2,q3⟩
    ·by_cases e:k=j
     ·subst e;rcases Ziw (m:=m) (C:=C) (j:=k) (n:=R-t) (k:=t) with ⟨_,h4⟩|⟨_,h4,_⟩
      ·exact h4 i h1 (by omega)
      ·omega
     ·exact hP.low i h1 h2 k (by omega)
   ·obtain ⟨k,hkk⟩: ∃ k,k=elK m C j (R-t) t:=⟨_,rfl⟩;obtain ⟨hk1,hk2,hk3⟩:t<=k/\k<R/\cell m C k j≠0:=by
     rcases Ziw (m:=m) (C:=C) (j:=j) (n:=R-t) (k:=t) with ⟨h4,_⟩|⟨h3,h4,h5⟩
     ·exact (hk (by omega)).elim
     ·rw[hkk];exact ⟨h3,by omega,h5⟩
    obtain ⟨c1,c2,c3⟩:=Zot hP.len htR hk2;cases he:Z0 C j t R (ZaV m C t k) with
    |none=>rw[Zml htR hkk (by omega) he] at h;cases h
    |some m2=>
     rw[Zmb htR hkk (by omega) he] at h;have hjC:j<C:=(by omega);have hpv:cell (ZaV m C t k) C t j≠0:=by
      rw[c3 t j hjC];by_cases e:t=k
      ·rw[if_pos e,e];exact hk3
      ·rw[if_neg e,if_pos rfl];exact hk3
     obtain ⟨d1,d2,d3,d4,d5⟩:=ZkI htR hjC (Nat.le_refl _) c1 hpv he;have hlow: ∀ i,t<=i->i<R-> ∀ c,c<j->cell (ZaV m C t k) C i c=0:=fun i h1 h2 c hc=>by
      rw[c3 i c (by omega)];split
      ·exact hP.low t (Nat.le_refl _) htR c hc
      ·split
       ·exact hP.low k hk1 hk2 c hc
       ·exact hP.low i h1 h2 c hc
     have hP':Pvs C R m2 (j+1) (t+1) (fun l=>if l=t then j else p l):=by
      refine ⟨d1,htR,fun l hl=> ?_,fun i h1 h2 c hc=> ?_⟩
      ·show (if l=t then j else p l)<j+1/\cell m2 C l (if l=t then j else p l)≠0/\ ∀ i,i<R->i≠l->cell m2 C i (if l=t then j else p l)=0;by_cases e:l=t
       ·subst e;rw[if_pos rfl];exact ⟨by omega,by rw[d3 j hjC];exact hpv,fun i hi hne=>d4 i hi hne⟩
       ·rw[if_neg e];obtain ⟨q1,q2,q3⟩:=hP.piv l (by omega);have ht0:cell (ZaV m C t k) C t (p l)=0:=hlow t (Nat.le_refl _) htR _ q1;refine ⟨by omega,fun h0=> ?_,fun i hi hne=> ?_⟩
        ·rw[d5 l (p l) (by omega) ht0,c3 l (p l) (by omega),if_neg (by omega),if_neg (by omega)] at h0;exact q2 h0
        ·rw[d5 i (p l) (by omega) ht0,c3 i (p l) (by omega)];split
         ·exact q3 t htR (by omega)
         ·split
          ·exact q3 k hk2 (by omega)
          ·exact q3 i hi hne
      ·by_cases e:c=j
       ·subst e;exact d4 i h2 (by omega)
       ·rw[d5 i c (by omega) (hlow t (Nat.le_refl _) htR c (by omega))];exact hlow i (by omega) h2 c (by omega)
     obtain ⟨g1,g2⟩:=ZiF (by omega) hP' h;exact ⟨fun x=>((c2 x).trans (d2 x)).trans (g1 x),g2⟩
  ·rw[ZiJ htR] at h;obtain ⟨rfl,rfl⟩:=Prod.mk.inj (Option.some.inj h);refine ⟨fun _=>Iff.rfl,p,hP.len,hP.le,fun l hl=> ?_,fun i h1 h2 k h3=>by omega⟩;obtain ⟨q1,q2,q3⟩:=hP.piv l hl;exact ⟨by omega,q2,q3⟩
theorem Zo9 {m:Mat} {T:Nat} {z:List Int} (h:Zeu m=some (T,z)): ∃ p,Pvs m.cols.toNat m.rows.toNat z m.cols.toNat T p/\ ∀ x,ZcN m.cells m.cols.toNat m.rows.toNat x↔ZcN z m.cols.toNat m.rows.toNat x:=by
 unfold Zeu at h;by_cases hB:Ze m=true
 ·rw[if_pos hB] at h;obtain ⟨R,C,hmr,hmc,hR,hC,hl,hnum⟩:=Zn hB;rw[hmr,hmc,Int.toNat_natCast,Int.toNat_natCast] at h ⊢;obtain ⟨g1,p',g2⟩:=ZiF (p:=fun _=>0) (by omega) (show Pvs C R (ZaH m.cells C R) 0 0 _ from ⟨by rw[Zd5];exact hl,Nat.zero_le _,fun l hl=>by omega,fun i _ _ k hk=>by omega⟩) h;exact ⟨p',g2,fun x=>(Zia hl x (Nat.le_refl _)).trans (g1 x)⟩
 ·rw[if_neg hB] at h;cases h
def Ans (s:ByteArray):Prop:=s≠⟨#[111,107]⟩/\s.size<=1048576
theorem Ans.mk' {l:List UInt8} (h:l≠[111,107]) (hl:l.length<=1048576):Ans (Zb l):=by
 refine ⟨fun e=>h ?_,by rw[ZG];exact hl⟩;have:=congrArg (fun b:ByteArray=>b.data.toList) e;simpa using this
theorem ZdD:Ans ⟨#[110,111,110,101]⟩:=⟨by decide,by decide⟩
theorem ZpQ:Ans ⟨#[119,104,97,116]⟩:=⟨by decide,by decide⟩
theorem ZbH {s t:ByteArray} (h: ¬ s=t):(s.toList==t.data.toList)=false:=by
 rw[←toList_data,ZsQ];exact decide_eq_false h
theorem Zp6 {n:Int} (hn:I64 n):Ans (Zb (Lib.itoa n)):=by
 have h1:=Lib.itoa_length_le n hn.1 hn.2;refine Ans.mk' (fun e=> ?_) (by omega);have h2:(111:UInt8)∈Lib.itoa n:=by rw[e];simp
 have h3:=ZdC h2
 revert h3;decide
theorem Zqt (m:Mat):Ans (Zb (ZaL m)):=by
 have h1:=Zcv m;refine Ans.mk' (fun e=> ?_) (by omega);cases h:Ze m with
 |false=>rw[ZhK h] at e;cases e
 |true=>
  have h2:(120:UInt8)∈ZaL m:=by rw[Zis h];simp
  rw[e] at h2
  revert h2;decide
theorem Zio (h: ∀ x∈xs,I64 x):(ZbE xs).length<=xs.length*22:=by
 have:=join_len_le (xs:=xs.map Lib.itoa) (sep:=[32]) (b:=21) fun y hy=>by obtain ⟨x,hx,rfl⟩:=List.mem_map.1 hy;exact Lib.itoa_length_le x (h x hx).1 (h x hx).2
 unfold ZbE;rw[List.length_map] at this;simp at this;omega
theorem ZoI (h: ∀ x∈xs,I64 x) (hn:xs.length<=40000):Ans (Zb (40::(ZbE xs++[41]))):=by
 have h1:=Zio h;refine Ans.mk' (fun e=> ?_) (by simp;omega);have:=(List.cons.inj e).1
 revert this;decide
theorem ZrG (m:Mat):ecT m<=24:=by
 cases h:Zeu m with
 |none=>unfold ecT;rw[h];simp
 |some y=>
  obtain ⟨T,z⟩:=y;rw[(Znc h).2];obtain ⟨p,hp, -⟩:=Zo9 h;have h1:=hp.le;by_cases hB:Ze m=true
  ·obtain ⟨R,C,hmr,hmc,hR,hC,hl,hnum⟩:=Zn hB;rw[hmr,Int.toNat_natCast] at h1;omega
  ·unfold Zeu at h;rw[if_neg hB] at h;cases h
theorem ZqF (m:Mat):(Zek m).length<=24:=by
 cases hB:Ze m with
 |false=>rw[(ZfZ (Zne hB)).2];simp
 |true=>
  obtain ⟨R,C,e1,e2,hR,hC,hl,hn⟩:=Zn hB;cases h:Zes m with
  |none=>rw[(ZfZ h).2];simp
  |some x=>rw[(Zmm h).2];unfold Zes at h;rw[if_pos hB] at h;obtain ⟨s, -,hs⟩:=Option.map_eq_some_iff.1 h;rw[←hs];unfold Zb9;refine Nat.le_trans (List.length_filter_le _ _) ?_;simp;omega
theorem Ze1 (a:Option Addr) (n c:Nat) (xs:List Int) (w:World) (h:RdI w S a n c xs) (hn:n<=40000) (ht:Tab w):
  Calls Tryz.prog 45 #[.slice a n c] w fun e w'=>e= .returned (.string (Zb (40::(ZbE xs++[41]))))/\Grow w w':=by
 have hl:=h.len;have h1:=Zio h.rng;have h2:(Zb (ZbE xs)).size<=1000000:=by rw[ZG];omega
 have hr:=h.rng;clear hr;go_enter Tryz.func45,Tryz.ntmps45;go_wp2_with fail;refine (ZgP a n c xs _ h (by omega) ht).mono ?_;rintro e w1 ⟨rfl,hG⟩;go_wp2;go_ret;exact ⟨by first |rfl|(rw[show (⟨#[40]⟩:ByteArray)=Zb [40] from rfl,show (⟨#[41]⟩:ByteArray)=Zb [41] from rfl,Zq,Zq];rfl),hG⟩
theorem ZsA {c:Nat} {m:Mat} (word:ByteArray) (h:RdI w S a n c m.cells) (hr:I64 m.rows) (hc:I64 m.cols) (hb:m.cells.length<=1048576) (ht:Tab w):
  Calls Tryz.prog 19 #[.string word, .agg #[Yv Yi m.rows,Yv Yi m.cols, .slice a n c]] w fun e w'=> ∃ s,e= .returned (.string s)/\Ans s/\Grow w w':=by
 have hl:=h.len;obtain ⟨w1,hw1,hG,bM, -⟩:=al1 w #[Yv Yi m.rows,Yv Yi m.cols, .slice a n c] 34;have hV:VM w1 S (.agg #[Yv Yi m.rows,Yv Yi m.cols, .slice a n c]) m:=⟨a,n,c,rfl,h.grow hG,hr,hc⟩;obtain ⟨⟨m0,m1,m2⟩, -⟩:=bM.three;have hltM:=bM.lt;rw[hw1] at m0 m1 m2 hltM;have Hw1:=hid hw1;have Ht:=hid (ht.grow hG);have hbm:bdM m<=1048576:=by unfold bdM;omega
 clear hw1 ht;go_enter Tryz.func19,Tryz.ntmps19;by_cases e1:word=⟨#[115,104,111,119]⟩
 ·subst e1;go_wp2_with fail;rw[←Hw1.out];refine (Zca hV (by omega) Ht.out).mono ?_;rintro e w2 ⟨rfl,hG2⟩;go_wp2;go_ret;exact ⟨_,rfl,Zqt m,hG.trans hG2⟩
 by_cases e2:word=⟨#[114,97,110,107]⟩
 ·subst e2;go_wp2_with fail;rw[←Hw1.out];refine (ZoD hV hbm).mono ?_;rintro e w2 ⟨rfl,hG2⟩;cases Zgz m with
  |true=>have h24:=ZrG m;have hi:I64 ((ecT m:Nat):Int):=(by unfold I64;omega);go_wp2_with fail;refine (ZaR _ _ hi (Ht.out.grow hG2)).mono ?_;rintro e w3 ⟨rfl,hG3⟩;go_wp2;go_ret;exact ⟨_,rfl,Zp6 hi,(hG.trans hG2).trans hG3⟩
  |false=>go_wp2;go_ret;exact ⟨_,rfl,ZdD,hG.trans hG2⟩
 by_cases e3:word=⟨#[102,97,99,116,111,114,115]⟩
 ·subst e3;go_wp2_with fail;rw[←Hw1.out];refine (Zn5 hV hbm).mono ?_;rintro e w2 ⟨x,rfl,⟨xa,xn,xc,rfl,oX,rX, -⟩,hG2⟩;obtain rfl:xn=(Zek m).length:=by have:=oX.len;simp[ints] at this;omega
  have hx24:=ZqF m;cases ZeF m with
  |true=>go_wp2_with fail;refine (Ze1 (S:=fun _=>True) xa _ xc _ _ (oX.rdI (fun _ _=>trivial) rX) (by omega) (Ht.out.grow hG2)).mono ?_;rintro e w3 ⟨rfl,hG3⟩;go_wp2;go_ret;exact ⟨_,rfl,ZoI rX (by omega),(hG.trans hG2).trans hG3⟩
  |false=>go_wp2;go_ret;exact ⟨_,rfl,ZdD,hG.trans hG2⟩
 ·have q1:(word.toList==[115,104,111,119])=false:=ZbH e1;have q2:(word.toList==[114,97,110,107])=false:=ZbH e2;have q3:(word.toList==[102,97,99,116,111,114,115])=false:=ZbH e3;clear e1 e2 e3;go_wp2;go_ret;exact ⟨_,rfl,ZdD,by rw[←Hw1.out];exact hG⟩

end Go.Proofs.YtjpcgofidijigaaGreatDoor
