/- Names of definitions: what the reference's and the program's IsName return, for all strings. -/
import Derived.Test.YtgeoehnbpkediaaGreatZDef
set_option maxHeartbeats 8000000
set_option maxRecDepth 100000
namespace Go.Proofs.YtgeoehnbpkediaaGreat
open Go.RowKit
open Lib (hid)
variable {S:Nat->Prop} {d:Dfn} {k:Nat} {s:ByteArray} {v:Value} {w:World}
def Zf5 (s:ByteArray) (k:Nat):Prop:= ∀ j (h:j<s.size),j<k->65<=(s[j].toNat:Int)/\(s[j].toNat:Int)<=90
def ZmV (l:List UInt8):Bool:=l.all (fun c=>decide (65<=c.toNat)&&decide (c.toNat<=90))&&(decide (1<=l.length)&&decide (l.length<=6))
def Zbl (s:ByteArray):Bool:=ZmV s.data.toList
theorem ZcI (s:ByteArray):Zbl s=true↔Zf5 s s.size/\1<=s.size/\s.size<=6:=by
 have e:s.data.toList.length=s.size:=by rw[Array.length_toList];rfl
 unfold Zbl ZmV Zf5;rw[Bool.and_eq_true,Bool.and_eq_true,e,List.all_eq_true,decide_eq_true_eq,decide_eq_true_eq];refine and_congr_left fun _=>⟨fun h j hj _=> ?_,fun h c hc=> ?_⟩
 ·have:=h s[j] (List.mem_iff_getElem.2 ⟨j,by omega,rfl⟩);simp at this;omega
 ·obtain ⟨j,hj,rfl⟩:=List.mem_iff_getElem.1 hc;have:=h j (by omega) (by omega);have e2:s[j]=s.data[j]:=rfl;rw[e2] at this;simp;omega
theorem ZeR (hk:k<s.size) (h:(s[k].toNat:Int)<65\/90<(s[k].toNat:Int)):Zbl s=false:=by
 rw[Bool.eq_false_iff,ne_eq,ZcI];intro hh;have:=hh.1 k hk hk;omega
theorem Zh2 (h:Zf5 s k) (hk:k<s.size) (h1:65<=(s[k].toNat:Int)) (h2:(s[k].toNat:Int)<=90):Zf5 s (k+1):=fun j hj hlt=>by
 by_cases e:j=k
 ·subst e;exact ⟨h1,h2⟩
 ·exact h j hj (by omega)
theorem Zfe (s:ByteArray) (w:World) (hs:s.size<=maxLen):Calls Tryz.prog 73 #[.string s] w fun e w'=>e= .returned (.bool (Zbl s))/\w=w':=by
 unfold maxLen at hs;go_enter Tryz.func73,Tryz.ntmps73;go_wp2;go_loop [3] (fun i=> ∃ k:Nat,k<=s.size/\i= .int .i64 k/\Zf5 s k) (fun i=>s.size-(intOf i).toNat);case atStart=>exact ⟨0,Nat.zero_le _,rfl,fun _ _ h=>by omega⟩
 case round=>
  obtain ⟨k,hk,rfl,he⟩:=hrel;have He:=hid he;clear he;by_cases hlt:k<s.size
  ·by_cases h1:(s[k].toNat:Int)<65
   ·go_wp2;go_ret;exact ⟨Zm (ZeR hlt (by omega)).symm,rfl⟩
   ·by_cases h2:90<(s[k].toNat:Int)
    ·go_wp2;go_ret;exact ⟨Zm (ZeR hlt (by omega)).symm,rfl⟩
    ·go_wp2
     go_round
     case rel=>exact ⟨k+1,by omega,by go_num,Zh2 He.out hlt (by omega) (by omega)⟩
     case measure=>simp[intOf];omega
  ·have:k=s.size:=(by omega);subst this;go_wp2_with (go_at_call 66;refine (Zbh _ _ _ _).mono ?_;rintro e w' ⟨rfl,rfl⟩);go_ret;refine ⟨Zm ?_,rfl⟩;have:=He.out;rw[Bool.eq_iff_iff,ZcI];simp[inB,this];omega
theorem Ze5 (s:ByteArray) (w:World) (hs:s.size<=maxLen):Calls Tryz.prog 70 #[.string s] w fun e w'=>e= .returned (.bool (Zbl s))/\w=w':=by
 unfold maxLen at hs;go_enter Tryz.func70,Tryz.ntmps70;go_wp2;go_loop [6] (fun i=> ∃ k:Nat,k<=s.size/\i= .int .i64 k/\Zf5 s k) (fun i=>s.size-(intOf i).toNat);case atStart=>exact ⟨0,Nat.zero_le _,rfl,fun _ _ h=>by omega⟩
 case round=>
  obtain ⟨k,hk,rfl,he⟩:=hrel;have He:=hid he;clear he;by_cases hlt:k<s.size
  ·by_cases h1:(s[k].toNat:Int)<65
   ·go_wp2;go_ret;exact ⟨Zm (ZeR hlt (by omega)).symm,rfl⟩
   ·by_cases h2:90<(s[k].toNat:Int)
    ·go_wp2;go_ret;exact ⟨Zm (ZeR hlt (by omega)).symm,rfl⟩
    ·go_wp2
     go_round
     case rel=>exact ⟨k+1,by omega,by go_num,Zh2 He.out hlt (by omega) (by omega)⟩
     case measure=>simp[intOf];omega
  ·have:k=s.size:=(by omega);subst this;have:=He.out;by_cases h1:1<=s.size
   ·go_wp2;go_ret;refine ⟨Zm ?_,rfl⟩;rw[Bool.eq_iff_iff,ZcI];simp[this];try omega
   ·go_wp2;go_ret;refine ⟨Zm ?_,rfl⟩;rw[Bool.eq_iff_iff,ZcI];simp[this];try omega
def ZdO (m:Mat):Bool:=decide (m.rows=0)&&(decide (m.cols=0)&&decide (m.cells.length=0))
def Zbg (d:Dfn):Bool:=Zbl d.name&&(decide (0<=d.op/\d.op<=9)&&
 (if d.op = 0 then d.a.toList.isEmpty && (d.b.toList.isEmpty && Zg d.value)
  else if d.op<=2 then Zbl d.a&&(Zbl d.b&&ZdO d.value)
  else Zbl d.a&&(d.b.toList.isEmpty&&ZdO d.value)))
theorem Zji {m:Mat} (h:VM w S v m):Calls Tryz.prog 72 #[v] w fun e w'=>e= .returned (.bool (ZdO m))/\Grow w w':=by
 obtain ⟨a,n,c,rfl,h,hr,hc⟩:=h;have hl:=h.len;have hG:Grow w (w.alloc (.cells #[.int .i64 m.rows, .int .i64 m.cols, .slice a n c] 28)):=(Grow.refl w).alloc _ _;obtain ⟨B1,e1⟩: ∃ B,(m.rows==0)=B:=⟨_,rfl⟩;obtain ⟨B2,e2⟩: ∃ B,(m.cols==0)=B:=⟨_,rfl⟩;obtain ⟨B3,e3⟩: ∃ B,((n:Int)==0)=B:=⟨_,rfl⟩;have H:=hid (show ZdO m=(B1&&(B2&&B3)) by unfold ZdO;rw[←e1, ←e2, ←e3,hl,Bool.eq_iff_iff];simp);clear hl;cases B1<;>cases B2<;>cases B3;all_goals go_enter Tryz.func72,Tryz.ntmps72;go_wp2;all_goals (go_ret;exact ⟨Zm (by rw[H.out];rfl),hG⟩)
theorem Zl9 (h:VD w S v d) (hb:d.value.cells.length<=2097152):Calls Tryz.prog 44 #[v] w fun e w'=>e= .returned (.bool (Zbg d))/\Grow w w':=by
 obtain ⟨a,n,c,rfl,h,ho⟩:=h;obtain ⟨o1,o2,o3,o4,o5,o6⟩:=ho;obtain ⟨w0,hw0,hG0, -, -⟩:=al1 w #[.string d.name, .int .i64 d.op, .string d.a, .string d.b, .int .i64 d.value.rows, .int .i64 d.value.cols, .slice a n c] 30;have hvm:VM w0 S (.agg #[.int .i64 d.value.rows, .int .i64 d.value.cols, .slice a n c]) d.value:=⟨a,n,c,rfl,h.grow hG0,o5,o6⟩;unfold I64 at o2;have Hw0:=hid hw0;clear hw0;go_enter Tryz.func44,Tryz.ntmps44;go_wp2_with fail;refine (Ze5 _ _ o1).mono ?_;rintro e w' ⟨rfl,rfl⟩;cases hN:Zbl d.name
 case' true=>
  by_cases hr1:0<=d.op
  case' pos=>
   by_cases hr2:d.op<=9
   case' pos=>
    by_cases h0:d.op=0
    case' pos=>
     have e0:(d.op==0)=true:=(by simp[h0]);have H0:=hid h0;clear h0;cases ha:d.a.toList.isEmpty
     case' true=>
      cases hb0:d.b.toList.isEmpty
      case' true=>go_wp2_with fail;rw[←Hw0.out];refine (ZV hvm (by unfold bdM;omega)).mono ?_;rintro e w1 ⟨rfl,hG1⟩;replace hG0:=hG0.trans hG1
    case' neg=>
     have e0:(d.op==0)=false:=(by simp[h0]);by_cases h2:d.op<=2
     case' neg=>have e1:(d.op==1)=false:=(by simp;omega);have e2:(d.op==2)=false:=by simp;omega
     case' pos=>
      by_cases h1:d.op=1
      case' pos=>have e1:(d.op==1)=true:=(by simp[h1]);have H1:=hid h1;clear h1
      case' neg=>have e1:(d.op==1)=false:=(by simp[h1]);have e2:(d.op==2)=true:=by simp;omega
     all_goals
      go_wp2_with fail;refine (Ze5 _ _ o3).mono ?_;rintro e w' ⟨rfl,rfl⟩;cases hA:Zbl d.a
      case' true=>
       first
        |(go_wp2_with fail;refine (Ze5 _ _ o4).mono ?_;rintro e w' ⟨rfl,rfl⟩;cases hB:Zbl d.b)
        |cases hB:d.b.toList.isEmpty
       case' true=>go_wp2_with fail;rw[←Hw0.out];refine (Zji hvm).mono ?_;rintro e w1 ⟨rfl,hG1⟩;replace hG0:=hG0.trans hG1
 all_goals
  go_wp2;go_ret;try have h0:=H0.out
  try have h1:=H1.out
  exact ⟨Zm (by simp[Zbg, *]<;>(intros;omega)),by first |exact hG0|(rw[←Hw0.out];exact hG0)⟩
theorem ZfK (h:VD w S v d) (hb:d.value.cells.length<=2097152):Calls Tryz.prog 45 #[v] w fun e w'=>e= .returned (.bool (Zbg d))/\Grow w w':=by
 obtain ⟨a,n,c,rfl,h,ho⟩:=h;obtain ⟨o1,o2,o3,o4,o5,o6⟩:=ho;have hlen:=h.len;obtain ⟨w0,hw0,hG0, -, -⟩:=al1 w #[.string d.name, .int .i64 d.op, .string d.a, .string d.b, .int .i64 d.value.rows, .int .i64 d.value.cols, .slice a n c] 30;have hvm:VM w0 S (.agg #[.int .i64 d.value.rows, .int .i64 d.value.cols, .slice a n c]) d.value:=⟨a,n,c,rfl,h.grow hG0,o5,o6⟩;unfold I64 at o2;have Hw0:=hid hw0;clear hw0;obtain ⟨B1,y1⟩: ∃ B,(d.value.rows==0)=B:=⟨_,rfl⟩;obtain ⟨B2,y2⟩: ∃ B,(d.value.cols==0)=B:=⟨_,rfl⟩;obtain ⟨B3,y3⟩: ∃ B,((n:Int)==0)=B:=⟨_,rfl⟩;have HZ:=hid (show ZdO d.value=(B1&&(B2&&B3)) by unfold ZdO;rw[←y1, ←y2, ←y3,hlen,Bool.eq_iff_iff];simp);clear hlen;cases B1
 case' true=>
  cases B2
  case' true=>cases B3
 all_goals
  go_enter Tryz.func45,Tryz.ntmps45;go_wp2_with fail;refine (Zfe _ _ o1).mono ?_;rintro e w' ⟨rfl,rfl⟩;cases hN:Zbl d.name
  case' true=>
   go_wp2_with fail;refine (Zbh _ _ _ _).mono ?_;rintro e w' ⟨rfl,rfl⟩;by_cases hr:0<=d.op/\d.op<=9
   case' neg=>rw[ZlQ hr]
   case' pos=>
    rw[ZhI.2 hr];by_cases h0:d.op=0
    case' pos=>
     have e0:(d.op==0)=true:=(by simp[h0]);have H0:=hid h0;clear h0;cases ha:d.a.toList.isEmpty
     case' true=>
      cases hb0:d.b.toList.isEmpty
      case' true=>go_wp2_with fail;rw[←Hw0.out];refine (ZQ hvm (by unfold bdM;omega)).mono ?_;rintro e w1 ⟨rfl,hG1⟩;replace hG0:=hG0.trans hG1
    case' neg=>
     have e0:(d.op==0)=false:=(by simp[h0]);by_cases h2:d.op<=2;all_goals
      go_wp2_with fail;refine (Zfe _ _ o3).mono ?_;rintro e w' ⟨rfl,rfl⟩;cases hA:Zbl d.a
      case' true=>
       first
        |(go_wp2_with fail;refine (Zfe _ _ o4).mono ?_;rintro e w' ⟨rfl,rfl⟩;cases hB:Zbl d.b)
        |cases hB:d.b.toList.isEmpty
  all_goals go_wp2;go_ret;(try have h0:=H0.out);exact ⟨Zm (by simp[Zbg,HZ.out, *]<;>(intros;omega)),by first |exact hG0|(rw[←Hw0.out];exact hG0)⟩

end Go.Proofs.YtgeoehnbpkediaaGreat
