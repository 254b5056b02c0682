/- Matrices as text: the reference's FormatMatrix. -/
import Derived.Test.YtjpcgofidijigaaGreatDoorZStr
import Derived.Shelf.Strconv.Itoa3
import Derived.Shelf.Strings.OnBuilder
import Derived.Ground.NamesProg
import Derived.Lib.AppendIntMem
set_option maxHeartbeats 8000000
set_option maxRecDepth 100000
namespace Go.Proofs.YtjpcgofidijigaaGreatDoor
open Go.RowKit
open Lib (hid)
variable {C R:Nat}
def ZbT (R C:Nat):List UInt8:=Lib.itoa R++(120::(Lib.itoa C++[91]))
theorem Zfm {cells:List Int} (h:Ze ⟨R,C,cells⟩=true):ZaL ⟨R,C,cells⟩=(ZbT R C++Zw C 0 cells)++[93]:=by
 rw[Zis h];simp[ZbT]
theorem Zkd (hR:R<=24) (hC:C<=24):(ZbT R C).length<=22:=by
 have a:=Zan (n:=(R:Int)) (by omega) (by omega);have b:=Zan (n:=(C:Int)) (by omega) (by omega);unfold ZbT;simp only[List.length_append,List.length_cons,List.length_nil];omega
theorem ZmI {k:Nat} {l:List Int} {x:Int} (h:l[k]? =some x):Zw C 0 (l.take (k+1))=Zw C 0 (l.take k)++((if 0<k/\k%C=0 then [59] else if 0<k then [32] else [])++Lib.itoa x):=by
 have hk:k<l.length:=(List.getElem?_eq_some_iff.1 h).1;rw[ZH h,Zer];simp only[Zw,List.append_nil,Nat.zero_add];rw[show (l.take k).length=k by simp;omega]
theorem ZiR {S:Nat->Prop} {v:Value} {m:Mat} {w:World} (h:VM w S v m) (hb:bdM m<=2097152):
  Calls Tryz.prog 23 #[v] w fun e w'=>e= .returned (.string (Zb (ZaL m)))/\Grow w w':=by
 have hVM:=h;obtain ⟨a,n,c,rfl,h,hr,hc⟩:=h;have hl:=h.len;have hG1:=(Grow.refl w).alloc #[.int .i64 m.rows, .int .i64 m.cols, .slice a n c] 34;have bM:=Blk.new w #[.int .i64 m.rows, .int .i64 m.cols, .slice a n c] 34;obtain ⟨⟨m0,m1,m2⟩, -⟩:=bM.three;cases hok:Ze m with
 |false=>have Hz:=hid (ZhK hok);go_enter Tryz.func23,Tryz.ntmps23;go_wp2_with fail;refine (Zfy (hVM.grow hG1) hb).mono ?_;rw[hok];rintro e w2 ⟨rfl,hG2⟩;clear hok;go_wp2;go_ret;exact ⟨by rw[Hz.out];rfl,hG1.trans hG2⟩
 |true=>
  obtain ⟨R,C,hR,hC,hR24,hC24,hlen,hnum⟩:=Zn hok;obtain ⟨r,k,cells⟩:=m;simp only at hR hC hl hlen hnum;subst hR;subst hC;have hn:n<=576:=by have:R*C<=24*24:=Nat.mul_le_mul hR24 hC24;omega
  have Hfm:=hid (Zfm hok);have hhl:=Zkd hR24 hC24;have Hhead:=hid (show Zb (Lib.itoa R)++⟨#[120]⟩++Zb (Lib.itoa C)++⟨#[91]⟩=Zb (ZbT R C) by
   show Zb _++Zb [120]++Zb _++Zb [91]=_;rw[Zq,Zq,Zq];simp[ZbT])
  have a10:=Zan (n:=(R:Int)) (by omega) (by omega);have b10:=Zan (n:=(C:Int)) (by omega) (by omega);have Hln:=hid hlen;have Hnum:=hid hnum;have Hok:=hid hok;have HC:=hid (show 0<n->0<C by
   intro h0;rcases Nat.eq_zero_or_pos C with e|e
   ·rw[e,Nat.mul_zero] at hlen;omega
   ·exact e)
  clear hlen hnum;go_enter Tryz.func23,Tryz.ntmps23;go_wp2_with fail;refine (Zfy (hVM.grow hG1) hb).mono ?_;rw[hok];rintro e w2 ⟨rfl,hG2⟩;have bM2:=bM.grow hG2;have hG12:=hG1.trans hG2;clear hok m0 m1 m2;obtain ⟨⟨m0,m1,m2⟩, -⟩:=bM2.three;go_wp2;refine Zg (S:=Grow w2) [([0,1,4,5],some 2),([3],some 6),([7,8,9],none)] Zm (by kernel_rfl) (fun _ _ _ _ _ h=>h) (Grow.refl _).drew ?_;show wpQuiet _ _ _ _ [_,_,_,_] _;repeat (first |(go_big_quiet_want;(first |refine Za Zv rfl rfl (fun w' hG=>hG.cell m0) ?_|refine Za Zv rfl rfl (fun w' hG=>hG.cell m1) ?_);go_big_quiet_on;simp only[putP])|go_big_quiet_step (exact fun _=>rfl))
  refine wpQuiet_nil ?_;refine Zf rfl (fun K hK=> ?_);go_wp2_with fail;refine (ZaX R _ (by unfold I64;omega)).mono ?_;rintro e _ ⟨rfl,rfl⟩;go_wp2_with fail;refine hK _ _ ((Grow.refl _).drew) ?_;clear hK K;show wpQuiet _ _ _ _ [_] _;try (conv=>arg 6;simp only[putP])
  repeat (first |(go_big_quiet_want;(first |refine Za Zv rfl rfl (fun w' hG=>hG.cell m0) ?_|refine Za Zv rfl rfl (fun w' hG=>hG.cell m1) ?_);go_big_quiet_on;simp only[putP])|go_big_quiet_step (exact fun _=>rfl))
  refine wpQuiet_nil ?_;refine Zf rfl (fun K hK=> ?_);go_wp2_with fail;refine (ZaX C _ (by unfold I64;omega)).mono ?_;rintro e _ ⟨rfl,rfl⟩;go_wp2_with fail;refine hK _ _ ((Grow.refl _).drew) ?_;clear hK K;show wpQuiet _ _ _ _ [_,_,_] _;try (conv=>arg 6;simp only[putP])
  repeat (first |(go_big_quiet_want;(first |refine Za Zv rfl rfl (fun w' hG=>hG.cell m0) ?_|refine Za Zv rfl rfl (fun w' hG=>hG.cell m1) ?_);go_big_quiet_on;simp only[putP])|go_big_quiet_step (exact fun _=>rfl))
  refine wpQuiet_nil ?_;refine Zk ?_;rw[Hhead.out];have hG3:Grow w w2.drew:=hG12.drew;have bM3:=bM2.grow (Grow.refl w2).drew;generalize hw3:w2.drew=w3 at *;clear hw3 m0 m1 m2;obtain ⟨H,hH⟩: ∃ H,H=ZbT R C:=⟨_,rfl⟩;rw[←hH] at hhl Hfm ⊢;clear hH Hhead;have h3:=h.grow hG3;go_wp2;go_loopw [3,4] (fun sv iv wr=>Grow w wr/\ ∃ k:Nat,k<=n/\iv= .int .i64 k/\sv= .string (Zb (H++Zw C 0 (cells.take k)))/\Blk wr w.heap.size #[.int .i64 R, .int .i64 C, .slice a n c] 34) (fun _ iv _=>n-(intOf iv).toNat);case atStart=>exact ⟨hG3,0,Nat.zero_le _,rfl,by simp[Zw],bM3⟩
  case round=>
   clear bM3 h3;obtain ⟨hGr,k,hk,rfl,rfl,bMr⟩:=hrel;obtain ⟨⟨m0,m1,m2⟩, -⟩:=bMr.three;have hrd:=h.grow hGr;obtain ⟨T,hT⟩: ∃ T,T=H++Zw C 0 (cells.take k):=⟨_,rfl⟩;rw[←hT];have hTl:T.length<=6400:=(by have h1:=Zdr (C:=C) (l:=cells.take k) (k:=0) fun x hx=>Hnum.out x (List.mem_of_mem_take hx);have h2:(cells.take k).length<=576:=(by simp;omega);rw[hT,List.length_append];omega);have HT:=hid hT;clear hT;by_cases hlt:k<n
   ·obtain ⟨b,off,x,rfl,hx,hrx, -,hbl,hcx⟩:=hrd.at hlt;have hx10:=Zan (Hnum.out x (List.mem_of_getElem? hx)).1 (Hnum.out x (List.mem_of_getElem? hx)).2;have Hx:=hid hx;have hC0:=HC.out (by omega);have Htk:=hid (ZmI (C:=C) hx);clear hx;by_cases hk0:k=0
    ·subst hk0;rw[Nat.add_zero] at hcx;go_wp2_with fail;refine (ZaX x _ hrx).mono ?_;rintro e _ ⟨rfl,rfl⟩;go_wp2;go_roundw;case rel=>exact ⟨hGr,1,by omega,by go_num,by rw[Zq,HT.out,Htk.out];simp,bMr⟩
     case measure=>simp[intOf];omega
    ·by_cases hkc:k%C=0
     ·have q1:(((k:Int)%(C:Int))==0)=true:=(by simp;omega);go_wp2_with fail;refine (ZaX x _ hrx).mono ?_;rintro e _ ⟨rfl,rfl⟩;go_wp2;go_roundw;case rel=>exact ⟨hGr,k+1,by omega,by go_num,by
       show Value.string (Zb T++Zb [59]++Zb (Lib.itoa x))=_;rw[Zq,Zq,HT.out,Htk.out,if_pos ⟨by omega,hkc⟩];simp,bMr⟩
      case measure=>simp[intOf];omega
     ·have q1:(((k:Int)%(C:Int))==0)=false:=(by simp;omega);go_wp2_with fail;refine (ZaX x _ hrx).mono ?_;rintro e _ ⟨rfl,rfl⟩;go_wp2;go_roundw;case rel=>exact ⟨hGr,k+1,by omega,by go_num,by
       show Value.string (Zb T++Zb [32]++Zb (Lib.itoa x))=_;rw[Zq,Zq,HT.out,Htk.out,if_neg (fun e=>hkc e.2),if_pos (by omega)];simp,bMr⟩
      case measure=>simp[intOf];omega
   ·have hkn:k=n:=(by omega);subst hkn;go_wp2;go_ret;refine ⟨?_,hGr⟩;rw[Hfm.out];show Ending.returned (Value.string (Zb T++Zb [93]))=_;rw[Zq,HT.out,Z7 hl]

end Go.Proofs.YtjpcgofidijigaaGreatDoor

namespace Go.Proofs.YtjpcgofidijigaaGreatDoor
open Go.Shelf
def Zi9:Go.Shelf.Ren:=⟨fun |171=>75|243=>110|246=>144|283=>175|284=>176|285=>177|286=>178|129=>192|317=>198|318=>199|319=>200|320=>201|337=>219|338=>220|n=>n,fun |3=>3|9=>9|2=>2|4=>4|171=>196|0=>0|53=>197|37=>22|5=>5|173=>200|212=>227|51=>187|20=>20|213=>228|46=>127|232=>253|233=>254|n=>n,fun |17=>5|18=>6|19=>7|n=>n⟩
theorem ZmA:Go.Proofs.LaysM.n171 Tryz.prog Zi9:={
 mixed:=by kernel_rfl
 f129:=Tryz.func192.trans (congrArg some (by kernel_rfl))
 f171:=Tryz.func75.trans (congrArg some (by kernel_rfl))
 f243:=Tryz.func110.trans (congrArg some (by kernel_rfl))
 f246:=Tryz.func144.trans (congrArg some (by kernel_rfl))
 f283:=Tryz.func175.trans (congrArg some (by kernel_rfl))
 f284:=Tryz.func176.trans (congrArg some (by kernel_rfl))
 f285:=Tryz.func177.trans (congrArg some (by kernel_rfl))
 f286:=Tryz.func178.trans (congrArg some (by kernel_rfl))
 f317:=Tryz.func198.trans (congrArg some (by kernel_rfl))
 f318:=Tryz.func199.trans (congrArg some (by kernel_rfl))
 f319:=Tryz.func200.trans (congrArg some (by kernel_rfl))
 f320:=Tryz.func201.trans (congrArg some (by kernel_rfl))
 f337:=Tryz.func219.trans (congrArg some (by kernel_rfl))
 f338:=Tryz.func220.trans (congrArg some (by kernel_rfl))
 t0:=Tryz.underlying0
 a0:=Tryz.isAgg0
 z0:=Tryz.sizeOf0
 v0:=Tryz.zeroValue0
 t2:=Tryz.underlying2
 a2:=Tryz.isAgg2
 z2:=Tryz.sizeOf2
 v2:=Tryz.zeroValue2
 t3:=Tryz.underlying3
 a3:=Tryz.isAgg3
 z3:=Tryz.sizeOf3
 v3:=Tryz.zeroValue3
 t4:=Tryz.underlying4
 a4:=Tryz.isAgg4
 z4:=Tryz.sizeOf4
 v4:=Tryz.zeroValue4
 t5:=Tryz.underlying5
 a5:=Tryz.isAgg5
 z5:=Tryz.sizeOf5
 v5:=Tryz.zeroValue5
 t9:=Tryz.underlying9
 a9:=Tryz.isAgg9
 z9:=Tryz.sizeOf9
 v9:=Tryz.zeroValue9
 t20:=Tryz.underlying20
 a20:=Tryz.isAgg20
 z20:=Tryz.sizeOf20
 v20:=Tryz.zeroValue20
 t37:=Tryz.underlying22
 a37:=Tryz.isAgg22
 z37:=Tryz.sizeOf22
 v37:=Tryz.zeroValue22
 t46:=Tryz.underlying127
 a46:=Tryz.isAgg127
 z46:=Tryz.sizeOf127
 v46:=Tryz.zeroValue127
 t51:=Tryz.underlying187
 a51:=Tryz.isAgg187
 z51:=Tryz.sizeOf187
 v51:=Tryz.zeroValue187
 t53:=Tryz.underlying197
 a53:=Tryz.isAgg197
 z53:=Tryz.sizeOf197
 v53:=Tryz.zeroValue197
 t171:=Tryz.underlying196
 a171:=Tryz.isAgg196
 z171:=Tryz.sizeOf196
 v171:=Tryz.zeroValue196
 t173:=Tryz.underlying200
 a173:=Tryz.isAgg200
 z173:=Tryz.sizeOf200
 v173:=Tryz.zeroValue200
 t212:=Tryz.underlying227
 a212:=Tryz.isAgg227
 z212:=Tryz.sizeOf227
 v212:=Tryz.zeroValue227
 t213:=Tryz.underlying228
 a213:=Tryz.isAgg228
 z213:=Tryz.sizeOf228
 t232:=Tryz.underlying253
 a232:=Tryz.isAgg253
 z232:=Tryz.sizeOf253
 v232:=Tryz.zeroValue253
 t233:=Tryz.underlying254
 a233:=Tryz.isAgg254
 z233:=Tryz.sizeOf254
 v233:=Tryz.zeroValue254
 g17:=by kernel_rfl
 g18:=by kernel_rfl
 g19:=by kernel_rfl
 i0:=by kernel_rfl
 i2:=by kernel_rfl
 i3:=by kernel_rfl
 i4:=by kernel_rfl
 i5:=by kernel_rfl
 i9:=by kernel_rfl
 i20:=by kernel_rfl
 i37:=by kernel_rfl
 i46:=by kernel_rfl
 i51:=by kernel_rfl
 i53:=by kernel_rfl
 i171:=by kernel_rfl
 i173:=by kernel_rfl
 i212:=by kernel_rfl
 i232:=by kernel_rfl
 i233:=by kernel_rfl
 m17:=by kernel_rfl
 m18:=by kernel_rfl
 m19:=by kernel_rfl}
open Go.RowKit Go.Sort Go.Lib in
theorem ZiW (n:Int) (h0: -9223372036854775808<=n) (h1:n<=9223372036854775807) (w:World) (htab:Lib.TabIs Tryz.prog w "internal/strconv.uint64pow10" .u64 Lib.pow10Tab):
  Calls Tryz.prog 75 #[.int .i64 n] w fun e w'=>e= .returned (.string ⟨(Lib.itoa n).toArray⟩)/\ ∃ k os,w'=grow (w.drewN k) os:=Any.strconv_Itoa ZmA n h0 h1 w htab
def ZfJ:Go.Shelf.Ren:=⟨fun |156=>73|165=>102|166=>103|169=>104|240=>141|241=>142|276=>173|277=>174|n=>n,fun |31=>43|9=>9|3=>3|4=>4|0=>0|20=>20|72=>141|76=>111|70=>139|37=>22|75=>110|127=>167|164=>193|5=>5|80=>143|n=>n,fun |n=>n⟩
theorem Zjj:Go.Proofs.Lays.n156 Tryz.prog ZfJ:={
 mixed:=by kernel_rfl
 f156:=Tryz.func73.trans (congrArg some (by kernel_rfl))
 f165:=Tryz.func102.trans (congrArg some (by kernel_rfl))
 f166:=Tryz.func103.trans (congrArg some (by kernel_rfl))
 f169:=Tryz.func104.trans (congrArg some (by kernel_rfl))
 f240:=Tryz.func141.trans (congrArg some (by kernel_rfl))
 f241:=Tryz.func142.trans (congrArg some (by kernel_rfl))
 f276:=Tryz.func173.trans (congrArg some (by kernel_rfl))
 f277:=Tryz.func174.trans (congrArg some (by kernel_rfl))
 t0:=Tryz.underlying0
 a0:=Tryz.isAgg0
 z0:=Tryz.sizeOf0
 v0:=Tryz.zeroValue0
 t3:=Tryz.underlying3
 a3:=Tryz.isAgg3
 z3:=Tryz.sizeOf3
 v3:=Tryz.zeroValue3
 t4:=Tryz.underlying4
 a4:=Tryz.isAgg4
 z4:=Tryz.sizeOf4
 v4:=Tryz.zeroValue4
 t9:=Tryz.underlying9
 a9:=Tryz.isAgg9
 z9:=Tryz.sizeOf9
 v9:=Tryz.zeroValue9
 t20:=Tryz.underlying20
 a20:=Tryz.isAgg20
 z20:=Tryz.sizeOf20
 v20:=Tryz.zeroValue20
 t31:=Tryz.underlying43
 a31:=Tryz.isAgg43
 z31:=Tryz.sizeOf43
 v31:=Tryz.zeroValue43
 t37:=Tryz.underlying22
 a37:=Tryz.isAgg22
 z37:=Tryz.sizeOf22
 v37:=Tryz.zeroValue22
 t70:=Tryz.underlying139
 a70:=Tryz.isAgg139
 z70:=Tryz.sizeOf139
 v70:=Tryz.zeroValue139
 t72:=Tryz.underlying141
 a72:=Tryz.isAgg141
 z72:=Tryz.sizeOf141
 v72:=Tryz.zeroValue141
 t75:=Tryz.underlying110
 a75:=Tryz.isAgg110
 z75:=Tryz.sizeOf110
 v75:=Tryz.zeroValue110
 t76:=Tryz.underlying111
 a76:=Tryz.isAgg111
 z76:=Tryz.sizeOf111
 v76:=Tryz.zeroValue111
 t127:=Tryz.underlying167
 a127:=Tryz.isAgg167
 z127:=Tryz.sizeOf167
 v127:=Tryz.zeroValue167
 t164:=Tryz.underlying193
 a164:=Tryz.isAgg193
 z164:=Tryz.sizeOf193
 v164:=Tryz.zeroValue193}
theorem Zdl:Builder.Extra Tryz.prog ZfJ:={
 sizeBuilder:=by kernel_rfl
 liesBuilder:=by kernel_rfl
 t5:=Tryz.underlying5
 a5:=Tryz.isAgg5
 z5:=Tryz.sizeOf5
 v5:=Tryz.zeroValue5
 infoByte:=by kernel_rfl
 cellsByte:=by kernel_rfl
 sizeByte:=by kernel_rfl
 neB5:=by decide}
open Go.RowKit in
theorem Zgh (a:Option Addr) (c:Nat) (sep:ByteArray) (w:World):
  Calls Tryz.prog 73 #[.slice a 0 c, .string sep] w fun e w'=>e= .returned (.string ⟨#[]⟩)/\w'=w:=Any.strings_Join_none Zjj Zdl a c sep w
open Go.RowKit in
theorem ZiV (bk o c:Nat) (xs:List ByteArray) (sep:ByteArray) (w:World) (hcells: ∀ (j:Nat) x,xs[j]? =some x->w.cell? ⟨bk,o+j,none⟩=some (.string x)) (hbk:bk<w.heap.size) (hN:xs.length<=140737488355328) (hcap:xs.length<=c) (hlen:(Lib.join (xs.map (·.data.toList)) sep.data.toList).length<=140737488355328):
  Calls Tryz.prog 73 #[.slice (some ⟨bk,o,none⟩) xs.length c, .string sep] w fun e w'=>e= .returned (.string ⟨(Lib.join (xs.map (·.data.toList)) sep.data.toList).toArray⟩)/\Below w.heap.size w w':=Any.strings_Join Zjj Zdl bk o c xs sep w hcells hbk hN hcap hlen
end Go.Proofs.YtjpcgofidijigaaGreatDoor

namespace Go.Proofs.YtjpcgofidijigaaGreatDoor
open Go.RowKit
open Lib (hid)
variable {S:Nat->Prop} {w w':World}
theorem Below.toGrow (h:Below w.heap.size w w'):Grow w w':=⟨h.os,h.tape,h.output,h.size,fun _ ha=>h.frozen ha,fun k hk _=>h.block k hk⟩
theorem Zpp (w:World) (k:Nat) (os:Array Obj):Grow w (Go.Sort.grow (w.drewN k) os):=by
 refine Below.toGrow ⟨rfl,rfl,rfl,by show w.heap.size<=(w.heap++os).size;rw[Array.size_append];omega,fun j hj=> ?_⟩;show (w.heap++os)[j]? =w.heap[j]?;rw[Array.getElem?_append_left hj]
def Tab (w:World):Prop:=Lib.TabIs Tryz.prog w "internal/strconv.uint64pow10" .u64 Lib.pow10Tab
theorem Tab.grow (h:Tab w) (hg:Grow w w'):Tab w':=(Lib.tabBelow_of_tabIs h) w' hg.below
theorem ZaR (n:Int) (w:World) (hn:I64 n) (ht:Tab w):Calls Tryz.prog 43 #[.int .i64 n] w fun e w'=>e= .returned (.string (Zb (Lib.itoa n)))/\Grow w w':=by
 have Ht:=hid ht;clear ht;have Hn:=hid hn;clear hn;go_enter Tryz.func43,Tryz.ntmps43;go_wp2_with fail;refine (ZiW n Hn.out.1 Hn.out.2 _ Ht.out).mono ?_;rintro e w' ⟨rfl,k,os,rfl⟩;have hG:=Zpp w k os;generalize Go.Sort.grow (w.drewN k) os=w1 at *;go_wp2;go_ret;exact ⟨rfl,hG⟩
theorem Zmq (a:Option Addr) (n c:Nat) (l:List ByteArray) (sep:ByteArray) (w:World) (h:RdS w S a n c l) (hn:n<=140737488355328)
  (hlen:(Lib.join (l.map (·.data.toList)) sep.data.toList).length<=140737488355328):
  Calls Tryz.prog 73 #[.slice a n c, .string sep] w fun e w'=>e= .returned (.string (Zb (Lib.join (l.map (·.data.toList)) sep.data.toList)))/\Grow w w':=by
 have hl:=h.len;cases l with
 |nil=>
  obtain rfl:n=0:=by simpa using hl.symm
  exact (Zgh a c sep w).mono fun e w' ⟨h1,h2⟩=>⟨h1,h2▸Grow.refl _⟩
 |cons x r=>obtain ⟨b,off,rfl, -,hc⟩:=h.row.addr (by simp[strs]);have hcl: ∀ (j:Nat) y,(x::r)[j]? =some y->w.cell? ⟨b,off+j,none⟩=some (.string y):=fun j y hj=>hc j _ (ZhT hj);have hbk:=World.block_lt_of_cell? w _ (hcl 0 x rfl);have:=ZiV b off c (x::r) sep w hcl hbk (by rw[hl];exact hn) (by rw[hl];exact h.row.le) hlen;rw[hl] at this;exact this.mono fun e w' ⟨h1,h2⟩=>⟨h1,Below.toGrow h2⟩
theorem Zhk (l:List (List UInt8)):(l.map Zb).map (·.data.toList)=l:=by simp[List.map_map,Function.comp_def]
theorem ZgP (a:Option Addr) (n c:Nat) (xs:List Int) (w:World) (h:RdI w S a n c xs) (hn:n<=1048576) (ht:Tab w):
  Calls Tryz.prog 71 #[.slice a n c] w fun e w'=>e= .returned (.string (Zb (ZbE xs)))/\Grow w w':=by
 have hl:=h.len;have Ht:=hid ht;clear ht;have Hl:=hid hl;clear hl;go_enter Tryz.func71,Tryz.ntmps71;go_wp2;go_loopw [3,5,9] (fun ov _ iv wr=>Grow w wr/\ ∃ (k:Nat) (a':Option Addr) (c':Nat),k<=n/\iv= .int .i64 k/\ov= .slice a' k c'/\Own wr 9 1 a' k c' (strs (((xs.take k).map Lib.itoa).map Zb))/\(∀ g,blk a'=some g->w.heap.size<=g)) (fun _ _ iv _=>n-(intOf iv).toNat);case atStart=>exact ⟨(Grow.refl _).alloc _ _,0,_,0,Nat.zero_le _,rfl,rfl,Own.fresh (by unfold maxLen;omega) rfl,fun g hg=>by simp at hg;omega⟩
 case round=>
  obtain ⟨hG,k,a',c',hk,rfl,rfl,hO,hlo⟩:=hrel;by_cases hlt:k<n
  ·obtain ⟨b,off,x,rfl,hx,hrx, -,hbl,hcx⟩:=(h.grow hG).at hlt;have Hx:=hid hx;clear hx;go_wp2_with fail;refine (ZaR x _ hrx (Ht.out.grow hG)).mono ?_;rintro e w2 ⟨rfl,hG2⟩;have hO2:=(hO.grow hG2).grow ((Grow.refl w2).alloc #[.string (Zb (Lib.itoa x))] 9);go_wp2_with (at_builtin;refine Zx rfl (.tmp 13) (.tmp 16) _ rfl T_strs rfl hO2 rfl (Row.built (S:=fun _=>True) 1 (by unfold maxLen;omega) rfl trivial) (by simp[Value.oneCell']) (by omega) (by unfold maxLen;omega) ?_;intro a3 c3 w3 hA3);have hsw:=hG.size;have hsw2:=hG2.size;have hG3:Grow w w3:=hA3.grow ((hG.trans hG2).alloc _ _) hlo;have hl3:=hA3.lo (B:=w.heap.size) (by simp;omega) hlo;have hO3:=hA3.own;clear hA3 hO hO2;go_wp2;go_roundw;case rel=>exact ⟨hG3,k+1,a3,c3,by omega,by go_num,rfl,by rw[ZH Hx.out,List.map_append,List.map_append];simpa [strs] using hO3,hl3⟩
   case measure=>simp[intOf];omega
  ·have hkn:k=n:=(by omega);subst hkn;have hj:Lib.join ((((xs.take k).map Lib.itoa).map Zb).map (·.data.toList)) (Zb [32]).data.toList=ZbE xs:=(by rw[Zhk,Z7 Hl.out];rfl);have hlen:(ZbE xs).length<=140737488355328:=(by have:=join_len_le (xs:=xs.map Lib.itoa) (sep:=[32]) (b:=21) fun y hy=>(by obtain ⟨x,hx,rfl⟩:=List.mem_map.1 hy;exact Lib.itoa_length_le x (h.rng x hx).1 (h.rng x hx).2);unfold ZbE;simp only[List.length_map,Hl.out,List.length_cons,List.length_nil] at this;omega);have hJ:=Zmq a' k c' _ (Zb [32]) wr (hO.rdS (S:=fun _=>True) fun _ _=>trivial) (by omega) (by rw[hj];exact hlen);rw[hj] at hJ;have HJ:=hid hJ;clear hj hlen hJ hO;go_wp2_with fail;refine HJ.out.mono ?_;rintro e w4 ⟨rfl,hG4⟩;go_wp2;go_ret;exact ⟨rfl,hG.trans hG4⟩

end Go.Proofs.YtjpcgofidijigaaGreatDoor
