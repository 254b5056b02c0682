/- Names of definitions: what the reference's and the program's IsName return, for all strings. -/
import Derived.Test.YtjpcgofidijigaaGreatDoorZDef
set_option maxHeartbeats 8000000
set_option maxRecDepth 100000
namespace Go.Proofs.YtjpcgofidijigaaGreatDoor
open Go.RowKit
open Lib (hid)
variable {S:Nat->Prop} {d:Dfn} {k:Nat} {l:List Dfn} {s:ByteArray} {v:Value} {w:World}
def ZfV (s:ByteArray) (k:Nat):Prop:= ∀ j (h:j<s.size),j<k->65<=(s[j].toNat:Int)/\(s[j].toNat:Int)<=90
def Zm5 (l:List UInt8):Bool:=l.all (fun c=>decide (65<=c.toNat)&&decide (c.toNat<=90))&&(decide (1<=l.length)&&decide (l.length<=6))
def Zax (s:ByteArray):Bool:=Zm5 s.data.toList
theorem Zb0 (s:ByteArray):Zax s=true↔ZfV s s.size/\1<=s.size/\s.size<=6:=by
 have e:s.data.toList.length=s.size:=by rw[Array.length_toList];rfl
 unfold Zax Zm5 ZfV;rw[Bool.and_eq_true,Bool.and_eq_true,e,List.all_eq_true,decide_eq_true_eq,decide_eq_true_eq];refine and_congr_left fun _=>⟨fun h j hj _=> ?_,fun h c hc=> ?_⟩
 ·have:=h s[j] (List.mem_iff_getElem.2 ⟨j,by omega,rfl⟩);simp at this;omega
 ·obtain ⟨j,hj,rfl⟩:=List.mem_iff_getElem.1 hc;have:=h j (by omega) (by omega);have e2:s[j]=s.data[j]:=rfl;rw[e2] at this;simp;omega
theorem ZeE (hk:k<s.size) (h:(s[k].toNat:Int)<65\/90<(s[k].toNat:Int)):Zax s=false:=by
 rw[Bool.eq_false_iff,ne_eq,Zb0];intro hh;have:=hh.1 k hk hk;omega
theorem Zh6 (h:ZfV s k) (hk:k<s.size) (h1:65<=(s[k].toNat:Int)) (h2:(s[k].toNat:Int)<=90):ZfV s (k+1):=fun j hj hlt=>by
 by_cases e:j=k
 ·subst e;exact ⟨h1,h2⟩
 ·exact h j hj (by omega)
theorem Ze6 (s:ByteArray) (w:World) (hs:s.size<=maxLen):Calls Tryz.prog 49 #[.string s] w fun e w'=>e= .returned (.bool (Zax s))/\w=w':=by
 unfold maxLen at hs;go_enter Tryz.func49,Tryz.ntmps49;go_wp2;go_loop [3] (fun i=> ∃ k:Nat,k<=s.size/\i= .int .i64 k/\ZfV s k) (fun i=>s.size-(intOf i).toNat);case atStart=>exact ⟨0,Nat.zero_le _,rfl,fun _ _ h=>by omega⟩
 case round=>
  obtain ⟨k,hk,rfl,he⟩:=hrel;have He:=hid he;clear he;by_cases hlt:k<s.size
  ·by_cases h1:(s[k].toNat:Int)<65
   ·go_wp2;go_ret;exact ⟨Zt (ZeE hlt (by omega)).symm,rfl⟩
   ·by_cases h2:90<(s[k].toNat:Int)
    ·go_wp2;go_ret;exact ⟨Zt (ZeE hlt (by omega)).symm,rfl⟩
    ·go_wp2
     go_round
     case rel=>exact ⟨k+1,by omega,by go_num,Zh6 He.out hlt (by omega) (by omega)⟩
     case measure=>simp[intOf];omega
  ·have:k=s.size:=(by omega);subst this;go_wp2_with (go_at_call 50;refine (ZbX _ _ _ _).mono ?_;rintro e w' ⟨rfl,rfl⟩);go_ret;refine ⟨Zt ?_,rfl⟩;have:=He.out;rw[Bool.eq_iff_iff,Zb0];simp[inB,this];omega
theorem ZeY (s:ByteArray) (w:World) (hs:s.size<=maxLen):Calls Tryz.prog 98 #[.string s] w fun e w'=>e= .returned (.bool (Zax s))/\w=w':=by
 unfold maxLen at hs;go_enter Tryz.func98,Tryz.ntmps98;go_wp2;go_loop [6] (fun i=> ∃ k:Nat,k<=s.size/\i= .int .i64 k/\ZfV s k) (fun i=>s.size-(intOf i).toNat);case atStart=>exact ⟨0,Nat.zero_le _,rfl,fun _ _ h=>by omega⟩
 case round=>
  obtain ⟨k,hk,rfl,he⟩:=hrel;have He:=hid he;clear he;by_cases hlt:k<s.size
  ·by_cases h1:(s[k].toNat:Int)<65
   ·go_wp2;go_ret;exact ⟨Zt (ZeE hlt (by omega)).symm,rfl⟩
   ·by_cases h2:90<(s[k].toNat:Int)
    ·go_wp2;go_ret;exact ⟨Zt (ZeE hlt (by omega)).symm,rfl⟩
    ·go_wp2
     go_round
     case rel=>exact ⟨k+1,by omega,by go_num,Zh6 He.out hlt (by omega) (by omega)⟩
     case measure=>simp[intOf];omega
  ·have:k=s.size:=(by omega);subst this;have:=He.out;by_cases h1:1<=s.size
   ·go_wp2;go_ret;refine ⟨Zt ?_,rfl⟩;rw[Bool.eq_iff_iff,Zb0];simp[this];try omega
   ·go_wp2;go_ret;refine ⟨Zt ?_,rfl⟩;rw[Bool.eq_iff_iff,Zb0];simp[this];try omega
def Zdn (m:Mat):Bool:=decide (m.rows=0)&&(decide (m.cols=0)&&decide (m.cells.length=0))
def Zac (d:Dfn):Bool:=Zax d.name&&(decide (0<=d.op/\d.op<=9)&&
 (if d.op = 0 then d.a.toList.isEmpty && (d.b.toList.isEmpty && Ze d.value)
  else if d.op<=2 then Zax d.a&&(Zax d.b&&Zdn d.value)
  else Zax d.a&&(d.b.toList.isEmpty&&Zdn d.value)))
theorem Zju {m:Mat} (h:VM w S v m):Calls Tryz.prog 99 #[v] w fun e w'=>e= .returned (.bool (Zdn m))/\Grow w w':=by
 obtain ⟨a,n,c,rfl,h,hr,hc⟩:=h;have hl:=h.len;have hG:Grow w (w.alloc (.cells #[.int .i64 m.rows, .int .i64 m.cols, .slice a n c] 34)):=(Grow.refl w).alloc _ _;obtain ⟨B1,e1⟩: ∃ B,(m.rows==0)=B:=⟨_,rfl⟩;obtain ⟨B2,e2⟩: ∃ B,(m.cols==0)=B:=⟨_,rfl⟩;obtain ⟨B3,e3⟩: ∃ B,((n:Int)==0)=B:=⟨_,rfl⟩;have H:=hid (show Zdn m=(B1&&(B2&&B3)) by unfold Zdn;rw[←e1, ←e2, ←e3,hl,Bool.eq_iff_iff];simp);clear hl;cases B1<;>cases B2<;>cases B3;all_goals go_enter Tryz.func99,Tryz.ntmps99;go_wp2;all_goals (go_ret;exact ⟨Zt (by rw[H.out];rfl),hG⟩)
theorem ZfB (h:VD w S v d) (hb:d.value.cells.length<=2097152):Calls Tryz.prog 66 #[v] w fun e w'=>e= .returned (.bool (Zac d))/\Grow w w':=by
 obtain ⟨a,n,c,rfl,h,ho⟩:=h;obtain ⟨o1,o2,o3,o4,o5,o6⟩:=ho;obtain ⟨w0,hw0,hG0, -, -⟩:=al1 w #[.string d.name, .int .i64 d.op, .string d.a, .string d.b, .int .i64 d.value.rows, .int .i64 d.value.cols, .slice a n c] 36;have hvm:VM w0 S (.agg #[.int .i64 d.value.rows, .int .i64 d.value.cols, .slice a n c]) d.value:=⟨a,n,c,rfl,h.grow hG0,o5,o6⟩;unfold I64 at o2;have Hw0:=hid hw0;clear hw0;go_enter Tryz.func66,Tryz.ntmps66;go_wp2_with fail;refine (ZeY _ _ o1).mono ?_;rintro e w' ⟨rfl,rfl⟩;cases hN:Zax d.name
 case' true=>
  by_cases hr1:0<=d.op
  case' pos=>
   by_cases hr2:d.op<=9
   case' pos=>
    by_cases h0:d.op=0
    case' pos=>
     have e0:(d.op==0)=true:=(by simp[h0]);have H0:=hid h0;clear h0;cases ha:d.a.toList.isEmpty
     case' true=>
      cases hb0:d.b.toList.isEmpty
      case' true=>go_wp2_with fail;rw[←Hw0.out];refine (Zz hvm (by unfold bdM;omega)).mono ?_;rintro e w1 ⟨rfl,hG1⟩;replace hG0:=hG0.trans hG1
    case' neg=>
     have e0:(d.op==0)=false:=(by simp[h0]);by_cases h2:d.op<=2
     case' neg=>have e1:(d.op==1)=false:=(by simp;omega);have e2:(d.op==2)=false:=by simp;omega
     case' pos=>
      by_cases h1:d.op=1
      case' pos=>have e1:(d.op==1)=true:=(by simp[h1]);have H1:=hid h1;clear h1
      case' neg=>have e1:(d.op==1)=false:=(by simp[h1]);have e2:(d.op==2)=true:=by simp;omega
     all_goals
      go_wp2_with fail;refine (ZeY _ _ o3).mono ?_;rintro e w' ⟨rfl,rfl⟩;cases hA:Zax d.a
      case' true=>
       first
        |(go_wp2_with fail;refine (ZeY _ _ o4).mono ?_;rintro e w' ⟨rfl,rfl⟩;cases hB:Zax d.b)
        |cases hB:d.b.toList.isEmpty
       case' true=>go_wp2_with fail;rw[←Hw0.out];refine (Zju hvm).mono ?_;rintro e w1 ⟨rfl,hG1⟩;replace hG0:=hG0.trans hG1
 all_goals
  go_wp2;go_ret;try have h0:=H0.out
  try have h1:=H1.out
  exact ⟨Zt (by simp[Zac, *]<;>(intros;omega)),by first |exact hG0|(rw[←Hw0.out];exact hG0)⟩
theorem ZcS (h:VD w S v d) (hb:d.value.cells.length<=2097152):Calls Tryz.prog 22 #[v] w fun e w'=>e= .returned (.bool (Zac d))/\Grow w w':=by
 obtain ⟨a,n,c,rfl,h,ho⟩:=h;obtain ⟨o1,o2,o3,o4,o5,o6⟩:=ho;have hlen:=h.len;obtain ⟨w0,hw0,hG0, -, -⟩:=al1 w #[.string d.name, .int .i64 d.op, .string d.a, .string d.b, .int .i64 d.value.rows, .int .i64 d.value.cols, .slice a n c] 36;have hvm:VM w0 S (.agg #[.int .i64 d.value.rows, .int .i64 d.value.cols, .slice a n c]) d.value:=⟨a,n,c,rfl,h.grow hG0,o5,o6⟩;unfold I64 at o2;have Hw0:=hid hw0;clear hw0;obtain ⟨B1,y1⟩: ∃ B,(d.value.rows==0)=B:=⟨_,rfl⟩;obtain ⟨B2,y2⟩: ∃ B,(d.value.cols==0)=B:=⟨_,rfl⟩;obtain ⟨B3,y3⟩: ∃ B,((n:Int)==0)=B:=⟨_,rfl⟩;have HZ:=hid (show Zdn d.value=(B1&&(B2&&B3)) by unfold Zdn;rw[←y1, ←y2, ←y3,hlen,Bool.eq_iff_iff];simp);clear hlen;cases B1
 case' true=>
  cases B2
  case' true=>cases B3
 all_goals
  go_enter Tryz.func22,Tryz.ntmps22;go_wp2_with fail;refine (Ze6 _ _ o1).mono ?_;rintro e w' ⟨rfl,rfl⟩;cases hN:Zax d.name
  case' true=>
   go_wp2_with fail;refine (ZbX _ _ _ _).mono ?_;rintro e w' ⟨rfl,rfl⟩;by_cases hr:0<=d.op/\d.op<=9
   case' neg=>rw[Zlu hr]
   case' pos=>
    rw[ZhW.2 hr];by_cases h0:d.op=0
    case' pos=>
     have e0:(d.op==0)=true:=(by simp[h0]);have H0:=hid h0;clear h0;cases ha:d.a.toList.isEmpty
     case' true=>
      cases hb0:d.b.toList.isEmpty
      case' true=>go_wp2_with fail;rw[←Hw0.out];refine (Zfy hvm (by unfold bdM;omega)).mono ?_;rintro e w1 ⟨rfl,hG1⟩;replace hG0:=hG0.trans hG1
    case' neg=>
     have e0:(d.op==0)=false:=(by simp[h0]);by_cases h2:d.op<=2;all_goals
      go_wp2_with fail;refine (Ze6 _ _ o3).mono ?_;rintro e w' ⟨rfl,rfl⟩;cases hA:Zax d.a
      case' true=>
       first
        |(go_wp2_with fail;refine (Ze6 _ _ o4).mono ?_;rintro e w' ⟨rfl,rfl⟩;cases hB:Zax d.b)
        |cases hB:d.b.toList.isEmpty
  all_goals go_wp2;go_ret;(try have h0:=H0.out);exact ⟨Zt (by simp[Zac,HZ.out, *]<;>(intros;omega)),by first |exact hG0|(rw[←Hw0.out];exact hG0)⟩
theorem ZgM {α:Type} {f:α->Bool}: ∀ {l:List α} {k:Nat},0<=firstIdx f (l.take k)->firstIdx f l=firstIdx f (l.take k)
 |[],k,h=>by simp
 |x::r,0,h=>by simp[firstIdx] at h
 |x::r,k+1,h=>by
  simp only[List.take_succ_cons,firstIdx] at h ⊢;by_cases hx:f x=true
  ·simp[hx]
  ·simp only[hx] at h ⊢;by_cases h0:firstIdx f (r.take k)<0
   ·rw[if_pos h0] at h;simp at h
   ·rw[ZgM (l:=r) (k:=k) (by omega)]
theorem ZkJ {α:Type} {f:α->Bool} {l:List α} {x:α} (hk:l[k]? =some x) (hx:f x=true):(firstIdx f l==(k:Int))=decide (firstIdx f (l.take k)<0):=by
 rw[Bool.eq_iff_iff,beq_iff_eq,decide_eq_true_eq];constructor
 ·intro h;by_cases h0:0<=firstIdx f (l.take k)
  ·have h1:=ZgM h0;have h2:=(Zd8 f (l.take k)).2;have h3:=List.length_take_le k l;omega
  ·omega
 ·intro h;refine Zd0 (fun y hy=> ?_) hk hx;have:=mt (ZgY f (l.take k)).2 (by omega);simp only[Bool.not_eq_true,List.any_eq_false] at this;simpa using this y hy
def ZaI (l:List Dfn) (k:Nat):Bool:=match l[k]? with
 |some d=>Zac d&&decide (ZD (l.take k) d.name<0)
 |none=>true
def ZV (l:List Dfn):Bool:=(List.range l.length).all (ZaI l)&&decide (l.length<=12)
theorem ZeZ (hk:k<l.length) (h:ZaI l k=false):ZV l=false:=by
 unfold ZV;rw[show (List.range l.length).all (ZaI l)=false from List.all_eq_false.2 ⟨k,List.mem_range.2 hk,by simp[h]⟩];rfl
theorem Zht (h: ∀ k,k<l.length->ZaI l k=true):ZV l=decide (l.length<=12):=by
 unfold ZV;rw[List.all_eq_true.2 fun k hk=>h k (List.mem_range.1 hk)];rfl
theorem ZkQ (hk:l[k]? =some d):(ZD l d.name==(k:Int))=decide (ZD (l.take k) d.name<0):=
 ZkJ (α:=Dfn) (f:=fun e=>e.name.toList==d.name.toList) hk (by simp)
theorem Zc1 (a:Option Addr) (n cap:Nat) (l:List Dfn) (w:World) (h:RdD w S a n cap l) (hn:n<=1048576) (hcl: ∀ d∈l,d.value.cells.length<=2097152):
  Calls Tryz.prog 55 #[.slice a n cap] w fun e w'=>e= .returned (.bool (ZV l))/\Grow w w':=by
 have Hl:=hid h.len;go_enter Tryz.func55,Tryz.ntmps55;go_wp2;go_loopw [3] (fun i wr=>Grow w wr/\ ∃ k:Nat,k<=n/\i= .int .i64 k/\ ∀ j,j<k->ZaI l j=true) (fun i _=>n-(intOf i).toNat);case atStart=>exact ⟨Grow.refl _,0,Nat.zero_le _,rfl,fun j hj=>by omega⟩
 case round=>
  obtain ⟨hG,k,hk,rfl,he⟩:=hrel;have He:=hid he;clear he;by_cases hlt:k<n
  ·have hr:=h.grow hG;have hpre:=hr.pre (k:=k) (by omega);obtain ⟨b,off,d,a1,c1,rfl,hx,_,hbw,hd1,r1,ho⟩:=hr.at hlt;have hcd:=hcl d (List.mem_of_getElem? hx);have hgd:ZaI l k=(Zac d&&decide (ZD (l.take k) d.name<0)):=(by unfold ZaI;rw[hx]);have hR:=T_defs.atH (a:=some (⟨b,off,none⟩:Addr)) (n:=n) (cap:=cap) (k:=k) (i:=k) rfl (by have:=hr.cap_le;omega);have Hx:=hid hx;clear hx;have hkl:=hid (show k<l.length by rw[Hl.out];exact hlt);cases hd:Zac d with
   |false=>have HD:=hid hd;have HF:=hid (show ZaI l k=false by rw[hgd,hd];rfl);clear hd hgd;go_wp2;refine Zg (S:=Grow wr) [([0,1,2,3],some 4),([5,6,7,8,9,10,11,12,13,14],some 15),([16,17],none)] Zm (by kernel_rfl) (fun _ _ _ _ _ h=>h) (Grow.refl _).drew ?_;show wpQuiet _ _ _ _ [_,_,_,_] _;(repeat (first |(go_big_quiet_want;(first |refine ZR ZS rfl rfl (fun w' hG=>hd1.grow hG) ?_|refine Za ZaE rfl rfl (fun w' hG=>hG.cell hd1.1) ?_|refine Zal (x:= .tmp 17) (h:= .tmp 18) rfl hR ?_);go_big_quiet_on;simp only[putP])|go_big_quiet_step (exact fun _=>rfl)));refine wpQuiet_nil ?_;refine Zf rfl (fun K hK=> ?_);go_wp2_with fail;refine (ZcS (d:=d) ⟨_,_,_,rfl,r1.grow (Grow.refl _).drew,ho⟩ hcd).mono ?_;rintro e w1 ⟨rfl,hGq⟩;have hGx:=(Grow.refl wr).drew.trans hGq;clear hGq;rw[HD.out];go_wp2_with fail;refine hK _ _ (hGx) ?_;clear hK K;show wpQuiet _ _ _ _ [_,_,_,_,_,_,_,_,_,_] _;(try (conv=>arg 6;simp only[putP]));(repeat (first |(go_big_quiet_want;(first |refine ZR ZS rfl rfl (fun w' hG=>hd1.grow hG) ?_|refine Za ZaE rfl rfl (fun w' hG=>hG.cell hd1.1) ?_|refine Zal (x:= .tmp 17) (h:= .tmp 18) rfl hR ?_);go_big_quiet_on;simp only[putP])|go_big_quiet_step (exact fun _=>rfl)));refine wpQuiet_nil ?_;refine Zli rfl (hGx) ?_;show wpQuiet _ _ _ _ [_,_] _;(try (conv=>arg 6;simp only[putP]));(repeat (first |(go_big_quiet_want;(first |refine ZR ZS rfl rfl (fun w' hG=>hd1.grow hG) ?_|refine Za ZaE rfl rfl (fun w' hG=>hG.cell hd1.1) ?_|refine Zal (x:= .tmp 17) (h:= .tmp 18) rfl hR ?_);go_big_quiet_on;simp only[putP])|go_big_quiet_step (exact fun _=>rfl)));refine wpQuiet_nil ?_;refine Zk ?_;go_wp2;go_ret;exact ⟨Zt (ZeZ hkl.out HF.out).symm,hG.trans hGx⟩
   |true=>
    have HD:=hid hd;by_cases hq:0<=ZD (l.take k) d.name
    ·have HF:=hid (show ZaI l k=false by rw[hgd,decide_eq_false (by omega)];simp);clear hd hgd;generalize hfn:ZD (l.take k) d.name=fn at *;have Hfn:=hid hfn;clear hfn;go_wp2;refine Zg (S:=Grow wr) [([0,1,2,3],some 4),([5,6,7,8,9,10,11,12,13,14],some 15),([16,17],none)] Zm (by kernel_rfl) (fun _ _ _ _ _ h=>h) (Grow.refl _).drew ?_;show wpQuiet _ _ _ _ [_,_,_,_] _;(repeat (first |(go_big_quiet_want;(first |refine ZR ZS rfl rfl (fun w' hG=>hd1.grow hG) ?_|refine Za ZaE rfl rfl (fun w' hG=>hG.cell hd1.1) ?_|refine Zal (x:= .tmp 17) (h:= .tmp 18) rfl hR ?_);go_big_quiet_on;simp only[putP])|go_big_quiet_step (exact fun _=>rfl)));refine wpQuiet_nil ?_;refine Zf rfl (fun K hK=> ?_);go_wp2_with fail;refine (ZcS (d:=d) ⟨_,_,_,rfl,r1.grow (Grow.refl _).drew,ho⟩ hcd).mono ?_;rintro e w1 ⟨rfl,hGq⟩;have hGx:=(Grow.refl wr).drew.trans hGq;clear hGq;rw[HD.out];go_wp2_with fail;refine hK _ _ (hGx) ?_;clear hK K;show wpQuiet _ _ _ _ [_,_,_,_,_,_,_,_,_,_] _;(try (conv=>arg 6;simp only[putP]));(repeat (first |(go_big_quiet_want;(first |refine ZR ZS rfl rfl (fun w' hG=>hd1.grow hG) ?_|refine Za ZaE rfl rfl (fun w' hG=>hG.cell hd1.1) ?_|refine Zal (x:= .tmp 17) (h:= .tmp 18) rfl hR ?_);go_big_quiet_on;simp only[putP])|go_big_quiet_step (exact fun _=>rfl)));refine wpQuiet_nil ?_;refine Zf rfl (fun K hK=> ?_);go_wp2_with fail;refine (Zeo _ _ _ (l.take k) d.name _ (hpre.grow hGx) (by omega)).mono ?_;rintro e w2 ⟨rfl,rfl⟩;rw[Hfn.out];go_wp2_with fail;refine hK _ _ (hGx) ?_;clear hK K;show wpQuiet _ _ _ _ [_,_] _;(try (conv=>arg 6;simp only[putP]));(repeat (first |(go_big_quiet_want;(first |refine ZR ZS rfl rfl (fun w' hG=>hd1.grow hG) ?_|refine Za ZaE rfl rfl (fun w' hG=>hG.cell hd1.1) ?_|refine Zal (x:= .tmp 17) (h:= .tmp 18) rfl hR ?_);go_big_quiet_on;simp only[putP])|go_big_quiet_step (exact fun _=>rfl)));refine wpQuiet_nil ?_;refine Zk ?_;go_wp2;go_ret;exact ⟨Zt (ZeZ hkl.out HF.out).symm,hG.trans hGx⟩
    ·have HF:=hid (show ZaI l k=true by rw[hgd,hd,decide_eq_true (by omega)];rfl);clear hd hgd;generalize hfn:ZD (l.take k) d.name=fn at *;have Hfn:=hid hfn;clear hfn;go_wp2;refine Zg (S:=Grow wr) [([0,1,2,3],some 4),([5,6,7,8,9,10,11,12,13,14],some 15),([16,17],none)] Zm (by kernel_rfl) (fun _ _ _ _ _ h=>h) (Grow.refl _).drew ?_;show wpQuiet _ _ _ _ [_,_,_,_] _;(repeat (first |(go_big_quiet_want;(first |refine ZR ZS rfl rfl (fun w' hG=>hd1.grow hG) ?_|refine Za ZaE rfl rfl (fun w' hG=>hG.cell hd1.1) ?_|refine Zal (x:= .tmp 17) (h:= .tmp 18) rfl hR ?_);go_big_quiet_on;simp only[putP])|go_big_quiet_step (exact fun _=>rfl)));refine wpQuiet_nil ?_;refine Zf rfl (fun K hK=> ?_);go_wp2_with fail;refine (ZcS (d:=d) ⟨_,_,_,rfl,r1.grow (Grow.refl _).drew,ho⟩ hcd).mono ?_;rintro e w1 ⟨rfl,hGq⟩;have hGx:=(Grow.refl wr).drew.trans hGq;clear hGq;rw[HD.out];go_wp2_with fail;refine hK _ _ (hGx) ?_;clear hK K;show wpQuiet _ _ _ _ [_,_,_,_,_,_,_,_,_,_] _;(try (conv=>arg 6;simp only[putP]));(repeat (first |(go_big_quiet_want;(first |refine ZR ZS rfl rfl (fun w' hG=>hd1.grow hG) ?_|refine Za ZaE rfl rfl (fun w' hG=>hG.cell hd1.1) ?_|refine Zal (x:= .tmp 17) (h:= .tmp 18) rfl hR ?_);go_big_quiet_on;simp only[putP])|go_big_quiet_step (exact fun _=>rfl)));refine wpQuiet_nil ?_;refine Zf rfl (fun K hK=> ?_);go_wp2_with fail;refine (Zeo _ _ _ (l.take k) d.name _ (hpre.grow hGx) (by omega)).mono ?_;rintro e w2 ⟨rfl,rfl⟩;rw[Hfn.out];go_wp2_with fail;refine hK _ _ (hGx) ?_;clear hK K;show wpQuiet _ _ _ _ [_,_] _;(try (conv=>arg 6;simp only[putP]));(repeat (first |(go_big_quiet_want;(first |refine ZR ZS rfl rfl (fun w' hG=>hd1.grow hG) ?_|refine Za ZaE rfl rfl (fun w' hG=>hG.cell hd1.1) ?_|refine Zal (x:= .tmp 17) (h:= .tmp 18) rfl hR ?_);go_big_quiet_on;simp only[putP])|go_big_quiet_step (exact fun _=>rfl)));refine wpQuiet_nil ?_;refine Zk ?_;go_wp2;go_roundw;case rel=>
      refine ⟨hG.trans hGx,k+1,by omega,by go_num,fun j hj=> ?_⟩;rcases Nat.lt_succ_iff_lt_or_eq.1 hj with hj|rfl
      ·exact He.out j hj
      ·exact HF.out
     case measure=>simp[intOf];omega
  ·go_wp2;go_ret;have:k=n:=(by omega);subst this;have hy:=Zht (l:=l) fun j hj=>He.out j (by rw[Hl.out] at hj;exact hj);exact ⟨Zt (by rw[hy,Hl.out,decide_eq_decide];omega),hG⟩
theorem ZiX (hb:Zae l<=1048576): ∀ d∈l,d.value.cells.length<=2097152:=by
 intro d hd;obtain ⟨k,hk,he⟩:=List.mem_iff_getElem.1 hd;have h1:=(ZhR (List.getElem?_eq_some_iff.2 ⟨hk,he⟩)).2;unfold Zae at hb;unfold bdD at h1;omega
theorem ZbY (a:Option Addr) (n cap:Nat) (l:List Dfn) (w:World) (h:RdD w S a n cap l) (hn:n<=1048576) (hcl: ∀ d∈l,d.value.cells.length<=2097152):
  Calls Tryz.prog 37 #[.slice a n cap] w fun e w'=>e= .returned (.bool (ZV l))/\Grow w w':=by
 have Hl:=hid h.len;go_enter Tryz.func37,Tryz.ntmps37;go_wp2;go_loopw [7] (fun i wr=>Grow w wr/\ ∃ k:Nat,k<=n/\i= .int .i64 k/\ ∀ j,j<k->ZaI l j=true) (fun i _=>n-(intOf i).toNat);case atStart=>exact ⟨Grow.refl _,0,Nat.zero_le _,rfl,fun j hj=>by omega⟩
 case round=>
  obtain ⟨hG,k,hk,rfl,he⟩:=hrel;have He:=hid he;clear he;by_cases hlt:k<n
  ·obtain ⟨b,off,d,a1,c1,rfl,hx,_,hbw,⟨e0,e1,e2,e3,e4,e5,e6⟩,r1,ho⟩:=(h.grow hG).at hlt;have hcd:=hcl d (List.mem_of_getElem? hx);have hself:=ZkQ hx;have hgd:ZaI l k=(Zac d&&decide (ZD (l.take k) d.name<0)):=(by unfold ZaI;rw[hx]);have Hx:=hid hx;clear hx;have Hg:=hid hgd;clear hgd;have Hs:=hid hself;clear hself;have hkl:=hid (show k<l.length by rw[Hl.out];exact hlt);obtain ⟨wb,hwb,hGb,hBb, -⟩:=al1 wr #[.string d.name, .int .i64 d.op, .string d.a, .string d.b, .int .i64 d.value.rows, .int .i64 d.value.cols, .slice a1 d.value.cells.length c1] 36;have Hwb:=hid hwb;clear hwb;go_wp2_with fail;rw[←Hwb.out];refine (ZfB (d:=d) ⟨_,_,_,rfl,r1.grow hGb,ho⟩ hcd).mono ?_;rintro e w1 ⟨rfl,hG1⟩;have hBb1:=hBb.grow hG1;obtain ⟨⟨z0,z1,z2,z3,z4,z5,z6⟩, -⟩:=hBb1.seven;cases hd:Zac d with
   |false=>have HD:=hid hd;clear hd;go_wp2;go_ret;exact ⟨Zt (ZeZ hkl.out (by rw[Hg.out,HD.out];rfl)).symm,(hG.trans hGb).trans hG1⟩
   |true=>
    have HD:=hid hd;clear hd;go_wp2_with fail;refine (Zc2 _ _ _ l d.name _ (((h.grow hG).grow hGb).grow hG1) (by omega)).mono ?_;rintro e w2 ⟨rfl,hG2⟩;have hG':=((hG.trans hGb).trans hG1).trans hG2;cases hq:(ZD l d.name==(k:Int)) with
    |false=>have hq2:(ZD l d.name !=(k:Int))=true:=(by simp[bne,hq]);have HQ:=hid hq;clear hq;go_wp2;go_ret;exact ⟨Zt (ZeZ hkl.out (by rw[Hg.out,HD.out, ←Hs.out,HQ.out];rfl)).symm,hG'⟩
    |true=>
     have hq2:(ZD l d.name !=(k:Int))=false:=(by simp[bne,hq]);have HQ:=hid hq;clear hq;go_wp2;go_roundw;case rel=>
      refine ⟨hG',k+1,by omega,by go_num,fun j hj=> ?_⟩;rcases Nat.lt_succ_iff_lt_or_eq.1 hj with hj|rfl
      ·exact He.out j hj
      ·rw[Hg.out,HD.out, ←Hs.out,HQ.out];rfl
     case measure=>simp[intOf];omega
  ·go_wp2;go_ret;have:k=n:=(by omega);subst this;have hy:=Zht (l:=l) fun j hj=>He.out j (by rw[Hl.out] at hj;exact hj);exact ⟨Zt (by rw[hy,Hl.out,decide_eq_decide];omega),hG⟩

end Go.Proofs.YtjpcgofidijigaaGreatDoor
