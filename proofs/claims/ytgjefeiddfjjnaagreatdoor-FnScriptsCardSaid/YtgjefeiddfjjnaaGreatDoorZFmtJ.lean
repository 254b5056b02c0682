/- Matrices as text: the program's FormatMatrix. -/
import Derived.Test.YtgjefeiddfjjnaaGreatDoorZFmtS
import Derived.Test.YtgjefeiddfjjnaaGreatDoorZDef
import Derived.Lib.SplitLaws
set_option maxHeartbeats 8000000
set_option maxRecDepth 100000
namespace Go.Proofs.YtgjefeiddfjjnaaGreatDoor
open Go.RowKit
open Lib (hid)
open Go.Value renaming int->Yv
open Go.IntKind renaming i64->Yi
open Bool renaming and_eq_true->JQ,eq_iff_iff->LD
open Grow renaming refl->JH
open Lib renaming count->Pp,countB->Li,cut->JT,itoa->JK,join_nil->MG,splitB->Nh,splitK->NU
open List renaming all_eq_true->Kn,cons_append->Kf,count_append->Ms,dropLast_concat->NT,dropLast_sublist->Pq,getElem?_eq_some_iff->K1,getLast?_concat->NV,length->ME,length_append->JY,length_cons->Kw,map_append->K0,mem_append->Kg,mem_cons->JU,mem_iff_getElem->LY,nil_append->Ka
open Nat renaming add_zero->Lm,zero_le->JI
open Go.Proofs.Tryz renaming func11->Pk,func55->Pn,ntmps11->Pm,ntmps55->Po,prog->JG
open Go.Proofs.Tryz
variable {L s:List UInt8} {S:Nat->Prop} {c:UInt8} {d:Dfn} {k:Nat} {m:Mat} {v:Value} {w:World}
theorem ZvX (a:Option Addr) (n cp C R i:Nat) (m:List Int) (w:World) (h:RdI w S a n cp m) (hl:m.length=R*C) (hi:i<R) (hR:R<=24) (hC:C<=24):
  Calls JG 33 #[.agg #[Yv Yi R,Yv Yi C, .slice a n cp],Yv Yi i] w fun e w'=> ∃ a1 c1,e= .returned (.slice a1 C c1)/\RdI w' S a1 C c1 ((m.drop (i*C)).take C)/\Grow w w':=by
 have hnl:=h.len;have b:=h.row.le;have hri:i*C+C<=m.length:=Bk
 exact Gp
theorem Ztf {C R i:Nat} {cells:List Int} (hl:cells.length=R*C) (h0:C=0->i=0) (hi:i=R\/C=0):Zfe C cells i=ZE C 0 cells:=by
 rcases Nat.eq_zero_or_pos C with e|e
 ·subst e;obtain rfl:cells=[]:=by simpa using hl
  rw[h0 rfl];simp[Zfe,ZeK,ZE,MG]
 ·obtain rfl:i=R:=I
  have:=ZjM e (cells:=cells) i I;rw[←hl,List.take_length] at this;exact this.symm
theorem Zcm (h:VM w S v m) (hb:bdM m<=2097152) (ht:Tab w):
  Calls JG 11 #[v] w fun e w'=>e= .returned (.string (Za (ZaG m)))/\Grow w w':=by
 have s:=h;obtain ⟨a,n,c,rfl,h,hr,hc⟩:=h;have A:=h.len;have hG1:=(JH w).alloc #[Yv Yi m.rows,Yv Yi m.cols, .slice a n c] 37;have X:=Blk.new w #[Yv Yi m.rows,Yv Yi m.cols, .slice a n c] 37;obtain ⟨⟨D,E,G⟩, -⟩:=X.three;have Ht:=hid ht;clear ht;cases hok:Zd m with
 |false=>have Hz:=hid (Zhp hok);go_enter Pk,Pm;go_wp2_with fail;refine (ZG (s.grow hG1) hb).mono ?_;exact GU
 |true=>
  obtain ⟨R,C,Y,Z,hR24,hC24,d,f⟩:=Zl hok;obtain ⟨r,k,cells⟩:=m;simp only at Y Z A d f;subst Y;subst Z;have hn:n<=576:=C4
  have Hfm:=hid (ZgE hok);have hhl:=ZmG hR24 hC24;have Hhead:=hid (show Za (JK R)++⟨#[120]⟩++Za (JK C)++⟨#[91]⟩=Za (Zdi R C) by
   show Za _++Za [120]++Za _++Za [91]=_;rw[Zo,Zo,Zo];simp[Zdi])
  have ad:=ZaK (n:=(R:Int)) I I;have ae:=ZaK (n:=(C:Int)) I I;have t:=hid d;have x:=hid f;have af:=hid hok;have Hl:=hid A;clear d f A;go_enter Pk,Pm;go_wp2_with fail;refine (ZG (s.grow hG1) hb).mono ?_;rw[hok];rintro e w2 ⟨rfl,hG2⟩;have p:=X.grow hG2;have y:=hG1.trans hG2;clear hok D E G;go_wp2;go_loopw [3,4] (fun ov J wr=>Grow w wr/\ ∃ (i:Nat) (a':Option Addr) (c':Nat),i<=R/\(C=0->i=0)/\J=Yv Yi i/\ov= .slice a' i c'/\Own wr 9 1 a' i c' (strs (((ZeK C cells i).map Zca).map Za))/\(∀ g,blk a'=some g->w.heap.size<g)/\Blk wr w.heap.size #[Yv Yi R,Yv Yi C, .slice a n c] 37) (fun _ J _=>R-(intOf J).toNat);case atStart=>exact ⟨y.alloc _ _,0,_,0,JI _,fun _=>rfl,rfl,rfl,Own.fresh Γ rfl,fun g L=>by have:=p.lt;simp at L;omega,p.alloc _⟩
  case round=>
   clear p;obtain ⟨hG,i,a',c',hi,hz,rfl,rfl,hO,hlo,q⟩:=hrel;obtain ⟨⟨D,E,G⟩, -⟩:=q.three;have aa:=q.lt;have Hz:=hid hz;clear hz;by_cases M:i<R/\0<C
   ·obtain ⟨N,ag⟩:=M;go_wp2_with fail;refine (ZvX a n c C R i cells _ (h.grow hG) t.out N hR24 hC24).mono ?_;rintro e w3 ⟨sa,sc,rfl,rr,hG3⟩;go_wp2_with fail;refine (Zif sa C sc _ _ rr I (Ht.out.grow (hG.trans hG3))).mono ?_;rintro e w4 ⟨rfl,hG4⟩;have b:=hG3.trans hG4;obtain ⟨F,O⟩:=eX (Zca ((cells.drop (i*C)).take C));rw[←O];have HF:=hid O;clear O;have z:=(hO.grow b).grow ((JH w4).alloc #[.string (Za F)] 9);have P:=q.grow b;clear D E G;go_wp2_with (at_builtin;refine ZD rfl (.tmp 20) (.tmp 25) _ rfl T_strs rfl z rfl (Row.built (S:=fun _=>True) 1 Γ rfl trivial) γ I Γ ?_;intro a3 c3 w5 j);have ah:=hG.size;have ab:=b.size;have hG5:Grow w w5:=j.grow ((hG.trans b).alloc _ _) fun g L=>Nat.le_of_lt (hlo g L);have T:=j.lo (B:=w.heap.size+1) Ψ hlo;have V:=(P.alloc (.cells #[.string (Za F)] 9)).keep j.keep (fun e=>ε);have W:=j.own;clear j hO z;go_wp2;go_roundw;case rel=>exact ⟨hG5,i+1,a3,c3,I,fun e=>I,Δ,rfl,by rw[ZeK,K0,K0];simpa [strs,HF.out] using W,T,V⟩
    case measure=>exact FN
   ·have o:=Ztf (i:=i) t.out Hz.out I;have Hend:=hid o;clear o;have hBl:(Zfe C cells i).length<=6400:=(by rw[Hend.out];have h1:=ZeN (C:=C) (l:=cells) (k:=0) x.out;have:=Hl.out;omega);by_cases ai:i<R
    ·have q0:decide (0<C)=false:=Ψ;go_wp2;exact FT
    ·skip
     go_wp2;exact FT
def Zhc (s:ByteArray) (k:Nat):Prop:= ∀ j (h:j<s.size),j<k->65<=(s[j].toNat:Int)/\(s[j].toNat:Int)<=90
def Zlw (l:List UInt8):Bool:=l.all (fun c=>decide (65<=c.toNat)&&decide (c.toNat<=90))&&(decide (1<=l.length)&&decide (l.length<=6))
def Zam (s:ByteArray):Bool:=Zlw s.data.toList
theorem Zcx (s:ByteArray):Zam s=true↔Zhc s s.size/\1<=s.size/\s.size<=6:=by
 have e:s.data.toList.length=s.size:=CX
 unfold Zam Zlw Zhc;rw[JQ,JQ,e,Kn,decide_eq_true_eq,decide_eq_true_eq];refine and_congr_left fun _=>⟨fun h j a _=> ?_,fun h c b=> ?_⟩
 ·have:=h s[j] (LY.2 ⟨j,I,rfl⟩);simp at this;omega
 ·obtain ⟨j,a,rfl⟩:=LY.1 b;have:=h j I I;have d:s[j]=s.data[j]:=rfl;rw[d] at this;simp;omega
theorem ZfU {s:ByteArray} (hk:k<s.size) (h:(s[k].toNat:Int)<65\/90<(s[k].toNat:Int)):Zam s=false:=by
 rw[Bool.eq_false_iff,ne_eq,Zcx];intro a;have:=a.1 k hk hk;omega
theorem ZjP {s:ByteArray} (h:Zhc s k) (hk:k<s.size) (h1:65<=(s[k].toNat:Int)) (h2:(s[k].toNat:Int)<=90):Zhc s (k+1):=fun j a b=>by
 by_cases e:j=k
 ·subst e;exact ⟨h1,h2⟩
 ·exact h j a I
theorem Zgd (s:ByteArray) (w:World) (hs:s.size<=maxLen):Calls JG 83 #[.string s] w fun e w'=>e= .returned (.bool (Zam s))/\w=w':=by
 unfold maxLen at hs;go_enter func83,ntmps83;go_wp2;go_loop [3] (fun i=> ∃ k:Nat,k<=s.size/\i=Yv Yi k/\Zhc s k) (fun i=>s.size-(intOf i).toNat);case atStart=>exact ⟨0,JI _,rfl,fun _ _ h=>I⟩
 case round=>
  obtain ⟨k,c,rfl,a⟩:=hrel;have b:=hid a;clear a;by_cases hlt:k<s.size
  ·by_cases d:(s[k].toNat:Int)<65
   ·go_wp2;exact IU
   ·by_cases f:90<(s[k].toNat:Int)
    ·go_wp2;exact IU
    ·go_wp2
     go_round
     case rel=>exact ⟨k+1,I,Δ,ZjP b.out hlt I I⟩
     case measure=>exact FN
  ·have:k=s.size:=I;subst this;go_wp2_with (go_at_call 49;refine (ZaU _ _ _ _).mono ?_;rintro e w' ⟨rfl,rfl⟩);go_ret;refine ⟨Zm ?_,rfl⟩;have:=b.out;rw[LD,Zcx];simp[inB,this];omega
theorem Zgm (s:ByteArray) (w:World) (hs:s.size<=maxLen):Calls JG 155 #[.string s] w fun e w'=>e= .returned (.bool (Zam s))/\w=w':=by
 unfold maxLen at hs;go_enter func155,ntmps155;go_wp2;go_loop [6] (fun i=> ∃ k:Nat,k<=s.size/\i=Yv Yi k/\Zhc s k) (fun i=>s.size-(intOf i).toNat);case atStart=>exact ⟨0,JI _,rfl,fun _ _ h=>I⟩
 case round=>
  obtain ⟨k,d,rfl,a⟩:=hrel;have b:=hid a;clear a;by_cases hlt:k<s.size
  ·by_cases c:(s[k].toNat:Int)<65
   ·go_wp2;exact IU
   ·by_cases f:90<(s[k].toNat:Int)
    ·go_wp2;exact IU
    ·go_wp2
     go_round
     case rel=>exact ⟨k+1,I,Δ,ZjP b.out hlt I I⟩
     case measure=>exact FN
  ·have:k=s.size:=I;subst this;have:=b.out;by_cases c:1<=s.size
   ·go_wp2;exact J2
   ·go_wp2;exact J2
def ZeL (m:Mat):Bool:=decide (m.rows=0)&&(decide (m.cols=0)&&decide (m.cells.length=0))
def Z9 (d:Dfn):Bool:=Zam d.name&&(decide (0<=d.op/\d.op<=9)&&
 (if d.op = 0 then d.a.toList.isEmpty && (d.b.toList.isEmpty && Zd d.value)
  else if d.op<=2 then Zam d.a&&(Zam d.b&&ZeL d.value)
  else Zam d.a&&(d.b.toList.isEmpty&&ZeL d.value)))
theorem ZlH (h:VM w S v m):Calls JG 156 #[v] w fun e w'=>e= .returned (.bool (ZeL m))/\Grow w w':=by
 obtain ⟨a,n,c,rfl,h,o,p⟩:=h;have b:=h.len;have i:Grow w (w.alloc (.cells #[Yv Yi m.rows,Yv Yi m.cols, .slice a n c] 37)):=(JH w).alloc _ _;obtain ⟨d,j⟩: ∃ B,(m.rows==0)=B:=⟨_,rfl⟩;obtain ⟨f,k⟩: ∃ B,(m.cols==0)=B:=⟨_,rfl⟩;obtain ⟨g,l⟩: ∃ B,((n:Int)==0)=B:=⟨_,rfl⟩;have H:=hid (show ZeL m=(d&&(f&&g)) by unfold ZeL;rw[←j, ←k, ←l,b,LD];simp);clear b;cases d<;>cases f<;>cases g;all_goals go_enter func156,ntmps156;go_wp2;all_goals (go_ret;exact ⟨Zm AZ,i⟩)
theorem ZgY (h:VD w S v d) (hb:d.value.cells.length<=2097152):Calls JG 102 #[v] w fun e w'=>e= .returned (.bool (Z9 d))/\Grow w w':=by
 obtain ⟨a,n,c,rfl,h,k⟩:=h;obtain ⟨l,m,o,p,q,r⟩:=k;obtain ⟨s,g,hG0, -, -⟩:=al1 w #[.string d.name,Yv Yi d.op, .string d.a, .string d.b,Yv Yi d.value.rows,Yv Yi d.value.cols, .slice a n c] 39;have i:VM s S (.agg #[Yv Yi d.value.rows,Yv Yi d.value.cols, .slice a n c]) d.value:=⟨a,n,c,rfl,h.grow hG0,q,r⟩;unfold I64 at m;have f:=hid g;clear g;go_enter func102,ntmps102;go_wp2_with fail;refine (Zgm _ _ l).mono ?_;rintro e w' ⟨rfl,rfl⟩;cases E:Zam d.name
 case' true=>
  by_cases t:0<=d.op
  case' pos=>
   by_cases x:d.op<=9
   case' pos=>
    by_cases h0:d.op=0
    case' pos=>
     have y:(d.op==0)=true:=Av;have z:=hid h0;clear h0;cases F:d.a.toList.isEmpty
     case' true=>
      cases A:d.b.toList.isEmpty
      case' true=>go_wp2_with fail;rw[←f.out];refine (ZG i Bq).mono ?_;rintro e w1 ⟨rfl,hG1⟩;replace hG0:=hG0.trans hG1
    case' neg=>
     have y:(d.op==0)=false:=Av;by_cases G:d.op<=2
     case' neg=>have j:(d.op==1)=false:=Ψ;have B:(d.op==2)=false:=Ψ
     case' pos=>
      by_cases h1:d.op=1
      case' pos=>have j:(d.op==1)=true:=AU;have C:=hid h1;clear h1
      case' neg=>have j:(d.op==1)=false:=AU;have B:(d.op==2)=true:=Ψ
     all_goals
      go_wp2_with fail;refine (Zgm _ _ o).mono ?_;rintro e w' ⟨rfl,rfl⟩;cases H:Zam d.a
      case' true=>
       first
        |(go_wp2_with fail;refine (Zgm _ _ p).mono ?_;rintro e w' ⟨rfl,rfl⟩;cases D:Zam d.b)
        |cases D:d.b.toList.isEmpty
       case' true=>go_wp2_with fail;rw[←f.out];refine (ZlH i).mono ?_;rintro e w1 ⟨rfl,hG1⟩;replace hG0:=hG0.trans hG1
 all_goals
  go_wp2;go_ret;try have h0:=z.out
  try have h1:=C.out
  exact ⟨Zm (by simp[Z9, *]<;>(intros;omega)),by first |exact hG0|(rw[←f.out];exact hG0)⟩
theorem ZdX (h:VD w S v d) (hb:d.value.cells.length<=2097152):Calls JG 47 #[v] w fun e w'=>e= .returned (.bool (Z9 d))/\Grow w w':=by
 obtain ⟨a,n,c,rfl,h,p⟩:=h;obtain ⟨q,r,s,t,x,y⟩:=p;have f:=h.len;obtain ⟨z,g,hG0, -, -⟩:=al1 w #[.string d.name,Yv Yi d.op, .string d.a, .string d.b,Yv Yi d.value.rows,Yv Yi d.value.cols, .slice a n c] 39;have j:VM z S (.agg #[Yv Yi d.value.rows,Yv Yi d.value.cols, .slice a n c]) d.value:=⟨a,n,c,rfl,h.grow hG0,x,y⟩;unfold I64 at r;have i:=hid g;clear g;obtain ⟨k,A⟩: ∃ B,(d.value.rows==0)=B:=⟨_,rfl⟩;obtain ⟨l,C⟩: ∃ B,(d.value.cols==0)=B:=⟨_,rfl⟩;obtain ⟨m,D⟩: ∃ B,((n:Int)==0)=B:=⟨_,rfl⟩;have E:=hid (show ZeL d.value=(k&&(l&&m)) by unfold ZeL;rw[←A, ←C, ←D,f,LD];simp);clear f;cases k
 case' true=>
  cases l
  case' true=>cases m
 all_goals
  go_enter func47,ntmps47;go_wp2_with fail;refine (Zgd _ _ q).mono ?_;rintro e w' ⟨rfl,rfl⟩;cases L:Zam d.name
  case' true=>
   go_wp2_with fail;refine (ZaU _ _ _ _).mono ?_;rintro e w' ⟨rfl,rfl⟩;by_cases o:0<=d.op/\d.op<=9
   case' neg=>rw[Zoy o]
   case' pos=>
    rw[Zjk.2 o];by_cases h0:d.op=0
    case' pos=>
     have F:(d.op==0)=true:=Av;have G:=hid h0;clear h0;cases M:d.a.toList.isEmpty
     case' true=>
      cases H:d.b.toList.isEmpty
      case' true=>go_wp2_with fail;rw[←i.out];refine (ZL j Bq).mono ?_;rintro e w1 ⟨rfl,hG1⟩;replace hG0:=hG0.trans hG1
    case' neg=>
     have F:(d.op==0)=false:=Av;by_cases N:d.op<=2;all_goals
      go_wp2_with fail;refine (Zgd _ _ s).mono ?_;rintro e w' ⟨rfl,rfl⟩;cases O:Zam d.a
      case' true=>
       first
        |(go_wp2_with fail;refine (Zgd _ _ t).mono ?_;rintro e w' ⟨rfl,rfl⟩;cases J:Zam d.b)
        |cases J:d.b.toList.isEmpty
  all_goals go_wp2;go_ret;(try have h0:=G.out);exact ⟨Zm (by simp[Z9,E.out, *]<;>(intros;omega)),by first |exact hG0|(rw[←i.out];exact hG0)⟩
def ZbE (d:Dfn):List UInt8:=if Z9 d=true then d.name.data.toList++(32::(if d.op=0 then ZaG d.value else opw d.op++(32::(d.a.data.toList++(if d.b.toList.isEmpty=true then [] else 32::d.b.data.toList))))) else []
theorem Zhb (h:Z9 d=false):ZbE d=[]:=by unfold ZbE;rw[h];rfl
theorem ZeU (s:ByteArray):Za s.data.toList=s:=by apply ByteArray.ext;show (s.data.toList).toArray=s.data;simp
theorem ZiU (s:ByteArray) (l:List UInt8):s++Za l=Za (s.data.toList++l):=by rw[←Zo,ZeU]
theorem ZoO (h:Z9 d=true) (h0:d.op=0):d.name++⟨#[32]⟩++Za (ZaG d.value)=Za (ZbE d):=by
 show d.name++Za [32]++Za (ZaG d.value)=_;rw[ZiU,Zo];unfold ZbE;rw[if_pos h,if_pos h0];simp
theorem Zon (h:Z9 d=true) (h0:d.op≠0) (hb:d.b.toList.isEmpty=true):d.name++⟨#[32]⟩++Za (opw d.op)++⟨#[32]⟩++d.a=Za (ZbE d):=by
 show d.name++Za [32]++Za (opw d.op)++Za [32]++d.a=_;rw[←ZeU d.a,ZiU,Zo,Zo,Zo];unfold ZbE;rw[if_pos h,if_neg h0,if_pos hb];simp
theorem ZkF (h:Z9 d=true) (h0:d.op≠0) (hb:d.b.toList.isEmpty=false):d.name++⟨#[32]⟩++Za (opw d.op)++⟨#[32]⟩++d.a++⟨#[32]⟩++d.b=Za (ZbE d):=by
 show d.name++Za [32]++Za (opw d.op)++Za [32]++d.a++Za [32]++d.b=_;rw[←ZeU d.a, ←ZeU d.b,ZiU,Zo,Zo,Zo,Zo,Zo];unfold ZbE;rw[if_pos h,if_neg h0,if_neg (by rw[hb];simp)];simp
theorem ZdB {s:ByteArray} (h:Zam s=true):s.size<=6:=((Zcx s).1 h).2.2
theorem Zh3 {s:ByteArray} (h:s.toList.isEmpty=true):s.size=0:=by rw[ZtK] at h;simpa using h
theorem ZhQ (h:Z9 d=true):d.name.size<=6/\d.a.size<=6/\d.b.size<=6/\0<=d.op/\d.op<=9:=by
 unfold Z9 at h;simp only[JQ,decide_eq_true_eq] at h;obtain ⟨e,⟨f,g⟩,c⟩:=h;refine ⟨ZdB e, ?_, ?_,f,g⟩
 ·split at c
  ·simp only[JQ] at c;have:=Zh3 c.1;omega
  ·split at c
   ·simp only[JQ] at c;exact ZdB c.1
   ·simp only[JQ] at c;exact ZdB c.1
 ·split at c
  ·simp only[JQ] at c;have:=Zh3 c.2.1;omega
  ·split at c
   ·simp only[JQ] at c;exact ZdB c.2.1
   ·simp only[JQ] at c;have:=Zh3 c.2.1;omega
theorem ZcL (h:VD w S v d) (hb:d.value.cells.length<=2097152) (ht:Tab w):
  Calls JG 55 #[v] w fun e w'=>e= .returned (.string (Za (ZbE d)))/\Grow w w':=by
 have g:=h;obtain ⟨a,n,c,rfl,h,z⟩:=h;obtain ⟨H,A,J,L,B,C⟩:=z;have hG1:=(JH w).alloc #[.string d.name,Yv Yi d.op, .string d.a, .string d.b,Yv Yi d.value.rows,Yv Yi d.value.cols, .slice a n c] 39;have k:=Blk.new w #[.string d.name,Yv Yi d.op, .string d.a, .string d.b,Yv Yi d.value.rows,Yv Yi d.value.cols, .slice a n c] 39;have D:=hid ht;clear ht;obtain ⟨⟨l,o,p,q,r,s,t⟩, -⟩:=k.seven;unfold I64 at A;cases hok:Z9 d with
 |false=>have Hz:=hid (Zhb hok);go_enter Pn,Po;go_wp2_with fail;refine (ZgY (g.grow hG1) hb).mono ?_;exact GU
 |true=>
  obtain ⟨M,N,O,x,y⟩:=ZhQ hok;have f:=hid hok;go_enter Pn,Po;go_wp2_with fail;refine (ZgY (g.grow hG1) hb).mono ?_;rw[hok];rintro e w2 ⟨rfl,hG2⟩;have j:=k.grow hG2;have hG12:=hG1.trans hG2;clear hok l o p q r s t;obtain ⟨⟨l,o,p,q,r,s,t⟩, -⟩:=j.seven;by_cases h0:d.op=0
  ·have E:(d.op==0)=true:=Av;have Hf:=hid (ZoO f.out h0);have F:=Zdy d.value;clear h0;go_wp2;refine ZaH [([0,1,2,3,4],some 5),([6,7],none)] ?_;refine ZR ?_;intro K hK;refine (Zcm (m:=d.value) (S:=S) ⟨a,n,c,rfl,(h.grow hG12).grow (JH w2).drew,B,C⟩ hb (D.out.grow hG12.drew)).mono ?_;exact Gl
  ·have E:(d.op==0)=false:=Av;have G:=Zlm d.op;cases i:d.b.toList.isEmpty with
   |true=>have Hf:=hid (Zon f.out h0 i);clear h0;go_wp2;refine ZaH [([0,1,2,3,4,8,9],some 5),([6,7,10,11],none)] ?_;refine ZR ?_;intro K hK;refine (Zh8 d.op _ ⟨x,y⟩).mono ?_;exact Gl
   |false=>have Hf:=hid (ZkF f.out h0 i);clear h0;go_wp2;refine ZaH [([0,1,2,3,4,8,9,12,13],some 5),([6,7,10,11,14,15],none)] ?_;refine ZR ?_;intro K hK;refine (Zh8 d.op _ ⟨x,y⟩).mono ?_;exact Gl
def sp (c:UInt8):Bool:=c==32
def Zjy:List (List UInt8)->List UInt8
 |[]=>[]
 |[x]=>x
 |x::y::r=>x++32::Zjy (y::r)
theorem Zp8 (x:List UInt8) {r:List (List UInt8)} (h:r≠[]):Zjy (x::r)=x++32::Zjy r:=by
 cases r with
 |nil=>exact absurd rfl h
 |cons y r=>rfl
theorem ZhJ: ∀ (l cur:List UInt8),Zjy (Zj sp cur l)=cur++l
 |[],cur=>by simp[Zj,Zjy]
 |c::r,cur=>by
  unfold Zj;split
  ·rename_i h;have:c=32:=(by simpa [sp] using h);subst this;have hne:Zj sp [] r≠[]:=fun e=>(by have:=(Zcu sp r []).2;rw[e] at this;simp at this);rw[Zp8 _ hne,ZhJ r []];simp
  ·rw[ZhJ r (cur++[c])];simp
def ZbF (x:List UInt8):Nat->Int
 |0=>0
 |n+1=>if x=opw ((n:Int)+1) then (n:Int)+1 else ZbF x n
theorem Zkp (x:List UInt8): ∀ n,0<=ZbF x n/\ZbF x n<=n
 |0=>by simp[ZbF]
 |n+1=>by unfold ZbF;have:=Zkp x n;split<;>omega
theorem Zl4 {x:List UInt8}: ∀ {n:Nat},ZbF x n≠0->x=opw (ZbF x n)
 |0,h=>by simp[ZbF] at h
 |n+1,h=>by
  unfold ZbF at h ⊢;split
  ·assumption
  ·rename_i hx;rw[if_neg hx] at h;exact Zl4 h
def headD (s:List UInt8):List UInt8:=s.takeWhile fun c=> !sp c
def ZbY (s:List UInt8):List UInt8:=s.drop ((headD s).length+1)
def Zbm (s:List UInt8):Bool:=s.any sp
theorem ZmK (h:Zbm s=true):s=headD s++32::ZbY s:=by
 induction s with
 |nil=>simp[Zbm] at h
 |cons c s b=>
  by_cases a:sp c=true
  ·have:c=32:=(by simpa [sp] using a);subst this;simp[headD,ZbY,sp]
  ·have d:Zbm s=true:=(by unfold Zbm at h ⊢;simpa [a] using h);have e:headD (c::s)=c::headD s:=(by unfold headD;simp[a]);unfold ZbY;rw[e];have:=b d;unfold ZbY at this;exact Ji
def Zat (s:List UInt8):List (List UInt8):=Zj sp [] (ZbY s)
def ZcD (s:List UInt8):Dfn:=match Za4 (ZbY s) with
 |some m=>⟨Za (headD s),0,⟨#[]⟩,⟨#[]⟩,m⟩
 |none=>⟨Za (headD s),ZbF ((Zat s).getD 0 []) 9,Za ((Zat s).getD 1 []),Za ((Zat s).getD 2 []),zeroP⟩
def Zbh (s:List UInt8):Option Dfn:=if Zbm s=true/\ZbE (ZcD s)=s then some (ZcD s) else none
theorem Zp6 (h:Zbm s=true) (e:ZbE d=s):Z9 d=true:=by
 cases a:Z9 d with
 |true=>rfl
 |false=>rw[Zhb a] at e;subst e;simp[Zbm] at h
theorem ZsI (h:Zbh s=some d):Z9 d=true/\ZbE d=s/\Zbm s=true/\ZcD s=d:=by
 unfold Zbh at h;split at h
 ·rename_i a;obtain rfl:=Option.some.inj h;exact ⟨Zp6 a.1 a.2,a.2,a.1,rfl⟩
 ·cases h
theorem Zk0 (h:Zbm s=true) (hf:ZbE (ZcD s)=s) (hp:Za4 (ZbY s)=none):
  ZbF ((Zat s).getD 0 []) 9≠0/\2<=(Zat s).length/\(Zat s).length<=3:=by
 have f:=Zp6 h hf;have j:=ZmK h;have i:=ZhJ (ZbY s) [];rw[Ka] at i;have k:Zat s=Zj sp [] (ZbY s):=rfl;rw[←k] at i;have l:ZcD s=⟨Za (headD s),ZbF ((Zat s).getD 0 []) 9,Za ((Zat s).getD 1 []),Za ((Zat s).getD 2 []),zeroP⟩:=by unfold ZcD;rw[hp]
 rw[l] at f hf;have m:=f;unfold ZbE at hf;rw[if_pos f] at hf;simp only at hf;have d: ∀ {x:List UInt8},headD s++32::x=s->x=ZbY s:=fun {x} e=>by have n:headD s++32::x=headD s++32::ZbY s:=e.trans j;exact (List.cons.inj (List.append_cancel_left n)).2
 by_cases g:ZbF ((Zat s).getD 0 []) 9=0
 ·exfalso;rw[if_pos g] at hf;have:=d hf;rw[←this] at hp;rw[ZdC.2 ⟨(by rfl:Zd zeroP=true),rfl⟩] at hp;cases hp
 ·refine ⟨g, ?_⟩;rw[if_neg g, ←Zl4 g] at hf;have a:=d hf;rw[←i] at a;unfold Z9 at f;rw[JQ,JQ] at f;have b:=f.2.2;simp only at b;rw[if_neg g] at b;have o:Zam (Za ((Zat s).getD 1 []))=true:=by
   split at b
   ·rw[JQ] at b;exact b.1
   ·rw[JQ] at b;exact b.1
  have c:(Zat s).getD 1 []≠[]:=fun e=>by have:=((Zcx _).1 o).2.1;rw[e] at this;have g:(Za []).size=0:=rfl;omega
  match p:Zat s,c,a with
  |[],c,_=>simp at c
  |[x],c,_=>simp at c
  |[x,y],_,_=>simp
  |[x,y,z],_,_=>simp
  |x::y::z::t::r,_,a=>exfalso;have:=congrArg ME a;simp only[List.getD_cons_zero,List.getD_cons_succ,Zjy,JY,Kw] at this;have q:(if (Za z).toList.isEmpty=true then ([]:List UInt8) else 32::z).length<=z.length+1:=(by split<;>simp);omega
theorem ZqJ (l:List UInt8):(Za l).toList.isEmpty=l.isEmpty:=by
 rw[toList_data]
def ZcE (s:List UInt8):Dfn:=(Zbh s).getD Zgj
def ZcU (s:List UInt8):Bool:=(Zbh s).isSome
theorem Zkt {m:Dfn} (h:Zbh s=some m):ZcE s=m/\ZcU s=true:=by unfold ZcE ZcU;rw[h];exact ⟨rfl,rfl⟩
theorem ZfF (h:Zbh s=none):ZcE s=Zgj/\ZcU s=false:=by unfold ZcE ZcU;rw[h];exact ⟨rfl,rfl⟩
theorem ZuB {l:List UInt8} (h: ∀ x∈l,sp x=false): ∀ x∈l,x≠32:=fun x a e=>by
 have:=h x a;rw[e] at this;cases this
theorem Zoi: ∀ (L:List UInt8), ∀ x∈headD L,sp x=false
 |[],x,hx=>by simp[headD] at hx
 |c::L,x,hx=>by
  unfold headD at hx;rw[List.takeWhile_cons] at hx;split at hx
  ·rename_i hc;rcases JU.1 hx with rfl|hx
   ·simpa using hc
   ·exact Zoi L x hx
  ·simp at hx
theorem Zvt (h:Zbm L=true):JT L [32]=(headD L,ZbY L,true):=by
 have b:=ZmK h;have a:=Znn (r:=ZbY L) (ZuB (Zoi L));rw[←b] at a;exact a
theorem Zq8 (h:Zbm L=false):JT L [32]=(L,[],false):=by
 refine Zwd (ZuB fun x a=> ?_);unfold Zbm at h;rw[List.any_eq_false] at h;have:=h x a;exact Ji
theorem Zm4 (c:UInt8): ∀ (n:Nat) (L:List UInt8),L.length<=n->NU [c] 0 (Pp L [c]) L=Zj (fun x=>x==c) [] L/\Pp L [c]+1=(Zj (fun x=>x==c) [] L).length
 |n,L,hn=>by
  have hq: ∀ {a:List UInt8},c∉a->(∀ x∈a,x≠c)/\ ∀ x∈a,(x==c)=false:=fun h=>
   have h1:=fun x hx (e:x=c)=>h (e▸hx)
   ⟨h1,fun x hx=>beq_eq_false_iff_ne.2 (h1 x hx)⟩
  by_cases h:c∈L
  ·obtain ⟨a,r,rfl,ha⟩:=List.eq_append_cons_of_mem h;have h2:=ZhL (r:=r) (hq ha).1;have hc:=Lib.count_hit Θ h2;have hd:(a++c::r).drop (a.length+[c].length)=r:=(by rw[List.drop_append];simp);rw[hd] at hc;have hp:=Zc0 (p:=fun x=>x==c) (c:=c) (r:=r) Θ (cur:=[]) (hq ha).2;rw[Ka] at hp;cases n with
   |zero=>simp at hn
   |succ n=>have hr:r.length<=n:=(by have h3:=hn;rw[JY,Kw] at h3;omega);obtain ⟨i1,i2⟩:=Zm4 c n r hr;rw[hp,hc,Nat.add_comm 1,Kw, ←i2, ←i1];refine ⟨?_,rfl⟩;rw[NU,h2,if_neg Θ,Int.toNat_natCast,hd,Lm];congr 1;simp
  ·rw[Zf6 (hq h).2,Lib.count_miss (ZhR (hq h).1)];exact Je
theorem Zov (c:UInt8) (L:List UInt8):Nh (Za [c]) 0 (Li (Za L) (Za [c])) (Za L)=(Zj (fun x=>x==c) [] L).map Za/\Li (Za L) (Za [c])+1=(Zj (fun x=>x==c) [] L).length:=by
 obtain ⟨a,b⟩:=Zm4 c L.length L (Nat.le_refl _);refine ⟨?_,b⟩;have h:=Lib.splitB_data (Za [c]) 0 (Li (Za L) (Za [c])) (Za L);have e:NU (Za [c]).data.toList 0 (Li (Za L) (Za [c])) (Za L).data.toList=Zj (fun x=>x==c) [] L:=a;rw[e] at h;rw[←h,List.map_map];exact (List.map_id' _).symm.trans (List.map_congr_left fun x _=>rfl)
theorem Zgz (L:List UInt8):Nh (Za [32]) 0 (Li (Za L) (Za [32])) (Za L)=(Zj sp [] L).map Za/\Li (Za L) (Za [32])+1=(Zj sp [] L).length:=Zov 32 L
theorem ZtT:Za4 []=none:=ZrS fun m a e=>by
 have:=Zdy m;rw[ZhM a] at e;have h:=congrArg ME e;simp at h
theorem Zti:ZbF [] 9=0:=Aj
def nmI (L:List UInt8):List UInt8:=(JT L [32]).1
def rsI (L:List UInt8):List UInt8:=(JT L [32]).2.1
theorem Zip (h:Zbm L=true):nmI L=headD L/\rsI L=ZbY L:=by unfold nmI rsI;rw[Zvt h];exact ⟨rfl,rfl⟩
theorem Zn0 (h:Zbm L=false):rsI L=[]:=by unfold rsI;rw[Zq8 h]
theorem ZrQ {M:Mat} (h:Za4 (rsI L)=some M):Zbm L=true/\ZcD L=⟨Za (nmI L),0,⟨#[]⟩,⟨#[]⟩,M⟩:=by
 cases a:Zbm L with
 |false=>rw[Zn0 a,ZtT] at h;cases h
 |true=>rw[(Zip a).2] at h;refine ⟨rfl, ?_⟩;unfold ZcD;rw[h,(Zip a).1]
theorem Zt9 (h:Za4 (rsI L)=none) (ho:ZbF ((Zj sp [] (rsI L)).getD 0 []) 9≠0):
  Zbm L=true/\ZcD L=⟨Za (nmI L),ZbF ((Zj sp [] (rsI L)).getD 0 []) 9,Za ((Zj sp [] (rsI L)).getD 1 []),Za ((Zj sp [] (rsI L)).getD 2 []),zeroP⟩:=by
 cases a:Zbm L with
 |false=>rw[Zn0 a] at ho;exact absurd Zti ho
 |true=>rw[(Zip a).2] at h ⊢;refine ⟨rfl, ?_⟩;unfold ZcD Zat;rw[h,(Zip a).1]
theorem ZvS (h:Za4 (rsI L)=none) (hb:ZbF ((Zj sp [] (rsI L)).getD 0 []) 9=0\/(Zj sp [] (rsI L)).length<2\/3<(Zj sp [] (rsI L)).length):Zbh L=none:=by
 unfold Zbh;rw[if_neg];rintro ⟨a,b⟩;rw[(Zip a).2] at h hb;have:=Zk0 a b h;unfold Zat at this;omega
theorem ZqO {F:List UInt8} (hs:Zbm L=true) (e:F=L) (hq:F.isEmpty=true):False:=by
 subst e;cases F with
 |nil=>simp[Zbm] at hs
 |cons a l=>cases hq
theorem Zer {n:Int}:(10:UInt8)∉JK n:=fun h=>by
 have a:=Zeh h
 revert a;decide
theorem Zpo {xs:List Int}:(10:UInt8)∉Zca xs:=fun h=>by
 cases xs with
 |nil=>simp[Zca,MG] at h
 |cons x l=>
  rw[Zmv] at h;rcases Kg.1 h with h|h
  ·exact Zer h
  ·obtain ⟨y,a,b⟩:=List.mem_flatten.1 h;obtain ⟨z, -,rfl⟩:=List.mem_map.1 a;rcases JU.1 b with h|h
   ·revert h;decide
   ·exact Zer h
theorem Znq {C:Nat}: ∀ {l:List Int} {k:Nat},(10:UInt8)∉ZE C k l
 |[],_=>by simp[ZE]
 |x::l,k=>fun h=>by
  simp only[ZE] at h;rcases Kg.1 h with h|h
  ·split at h
   ·revert h;decide
   ·split at h
    ·revert h;decide
    ·cases h
  ·exact (Kg.1 h).elim Zer Znq
theorem Zp1:(10:UInt8)∉ZaG m:=fun h=>by
 cases a:Zd m with
 |false=>rw[Zhp a] at h;cases h
 |true=>
  rw[ZhM a] at h;simp only[Kg,JU,List.not_mem_nil,or_false] at h;rcases h with h|h|h|h|h|h
  ·exact Zer h
  ·revert h;decide
  ·exact Zer h
  ·revert h;decide
  ·exact Znq h
  ·revert h;decide
theorem Zjv {s:ByteArray} (h:Zam s=true):(10:UInt8)∉s.data.toList/\(32:UInt8)∉s.data.toList:=by
 unfold Zam Zlw at h;rw[JQ,Kn] at h;exact ⟨fun a=>by have:=h.1 _ a;revert this;decide,fun a=>by have:=h.1 _ a;revert this;decide⟩
theorem Zv7 (op:Int):(10:UInt8)∉opw op:=fun h=>by
 unfold opw at h;split at h
 ·rw[List.getD_eq_getElem?_getD] at h;cases a:opWords[op.toNat]? with
  |none=>rw[a] at h;cases h
  |some x=>rw[a] at h;exact (by decide: ∀ x∈opWords,(10:UInt8)∉x) x (List.mem_of_getElem? a) h
 ·cases h
theorem Zno (s:ByteArray): ∃ L,s=Za L:=⟨s.data.toList,(ZeU s).symm⟩
abbrev Nl (s:ByteArray):Prop:=(10:UInt8)∉s.data.toList
theorem Nl.app {a b:ByteArray} (h:Nl a) (k:Nl b):Nl (a++b):=by
 unfold Nl;rw[ByteArray.data_append,Array.toList_append];exact fun c=>(Kg.1 c).elim h k
theorem Nl.b (h:(10:UInt8)∉L):Nl (Za L):=h
theorem Zu2:(10:UInt8)∉ZbE d:=fun h=>by
 cases f:Z9 d with
 |false=>rw[Zhb f] at h;cases h
 |true=>
  have e:=f;unfold Z9 at e;simp only[JQ] at e;unfold ZbE at h;rw[if_pos f] at h;rcases Kg.1 h with h|h
  ·exact (Zjv e.1).1 h
  ·rcases JU.1 h with h|h
   ·revert h;decide
   ·by_cases g:d.op=0
    ·rw[if_pos g] at h;exact Zp1 h
    ·rw[if_neg g] at h;have c:=e.2.2;rw[if_neg g] at c;have k:Zam d.a=true/\(Zam d.b=true\/d.b.toList.isEmpty=true):=by
      split at c<;>simp only[JQ] at c
      ·exact ⟨c.1, .inl c.2.1⟩
      ·exact ⟨c.1, .inr c.2.1⟩
     rcases Kg.1 h with h|h
     ·exact Zv7 _ h
     ·rcases JU.1 h with h|h
      ·revert h;decide
      ·rcases Kg.1 h with h|h
       ·exact (Zjv k.1).1 h
       ·split at h
        ·cases h
        ·rename_i i;rcases JU.1 h with h|h
         ·revert h;decide
         ·rcases k.2 with j|j
          ·exact (Zjv j).1 h
          ·exact i j
def nlB (c:UInt8):Bool:=c==10
theorem ZlV (L:List UInt8):Nh (Za [10]) 0 (Li (Za L) (Za [10])) (Za L)=(Zj nlB [] L).map Za/\Li (Za L) (Za [10])+1=(Zj nlB [] L).length:=Zov 10 L
theorem Zgp (p:UInt8->Bool) (c:UInt8): ∀ (l cur:List UInt8), ∃ i x,Zj p cur l=i++[x]/\Zj p cur (l++[c])=if p c=true then i++[x]++[[]] else i++[x++[c]]
 |[],cur=>⟨[],cur,rfl,by simp only[Ka,Zj];split<;>simp⟩
 |y::l,cur=>by
  by_cases hy:p y=true
  ·obtain ⟨i,x,h1,h2⟩:=Zgp p c l [];refine ⟨cur::i,x,by rw[Zj,if_pos hy,h1];rfl, ?_⟩;rw[Kf,Zj,if_pos hy,h2];split<;>rfl
  ·obtain ⟨i,x,h1,h2⟩:=Zgp p c l (cur++[y]);exact ⟨i,x,by rw[Zj,if_neg hy,h1],by rw[Kf,Zj,if_neg hy,h2]⟩
theorem Zfq: ∀ (l cur:List UInt8),(Zj nlB cur l).length=l.count 10+1
 |[],cur=>rfl
 |c::l,cur=>by
  unfold Zj;split
  ·rename_i h;obtain rfl:c=10:=(by simpa [nlB] using h);simp[Zfq l]
  ·rename_i h;have:c≠10:=fun e=>h (by simp[nlB,e]);rw[Zfq l,List.count_cons_of_ne this]
def ZeF (L:List UInt8):List (List UInt8):=if (Zj nlB [] L).getLast?=some [] then (Zj nlB [] L).dropLast else Zj nlB [] L
def Zbf (L:List UInt8):Nat:=if L=[] then 0 else L.dropLast.count 10+1
theorem Zht (L:List UInt8):(ZeF L).length=Zbf L:=by
 rcases List.eq_nil_or_concat L with rfl|⟨M,c,rfl⟩
 ·rfl
 ·obtain ⟨i,x,d,e⟩:=Zgp nlB c M [];have a:=Zfq M [];rw[d,JY] at a;have f:Zbf (M++[c])=M.count 10+1:=by unfold Zbf;rw[if_neg Θ,NT]
  rw[List.concat_eq_append,f];unfold ZeF;rw[e];by_cases b:nlB c=true
  ·rw[if_pos b,if_pos NV,NT,JY];exact a
  ·rw[if_neg b,if_neg (by rw[NV];simp),JY];exact a
theorem Zkw {x:List UInt8} (h:x∈ZeF L):x.length<=L.length:=by
 have a:x∈Zj nlB [] L:=by
  unfold ZeF at h;split at h
  ·exact (Pq _).subset h
  ·exact h
 have:=ZcZ a;exact Ji
theorem Zr3 (L:List UInt8):Zbf L<=L.count 10+1:=by
 unfold Zbf;split
 ·omega
 ·have:=(Pq L).count_le 10;omega
def lnT (L:List UInt8) (k:Nat):Nat:=if k=L.length then Zbf L else (L.take k).count 10
theorem Zt7 (L:List UInt8):lnT L 0=0:=by
 unfold lnT;split
 ·rename_i h;rw[List.length_eq_zero_iff.1 h.symm];rfl
 ·rfl
theorem Zkl (hc:L[k]? =some c):(L.take (k+1)).count 10=(L.take k).count 10+if c=10 then 1 else 0:=by
 rw[ZH hc,Ms,List.count_singleton];congr 1;by_cases h:c=10
 ·rw[if_pos h,h];rfl
 ·rw[if_neg h,if_neg Ai]
theorem ZpT (hc:L[k]? =some c) (h:c=10\/k+1=L.length):lnT L (k+1)=lnT L k+1:=by
 have b:=(K1.1 hc).1;unfold lnT;rw[if_neg (show ¬ k=L.length by omega)];by_cases a:k+1=L.length
 ·rw[if_pos a];unfold Zbf;rw[if_neg (by intro e;rw[e] at b;simp at b),List.dropLast_eq_take, ←a,Nat.add_sub_cancel]
 ·rw[if_neg a,Zkl hc,if_pos (h.resolve_right a)]
theorem Ztc (hc:L[k]? =some c) (h:c≠10) (he:k+1≠L.length):lnT L (k+1)=lnT L k:=by
 have a:=(K1.1 hc).1;unfold lnT;rw[if_neg (show ¬ k=L.length by omega),if_neg he,Zkl hc,if_neg h,Lm]
theorem ZuR (L:List UInt8):lnT L L.length=Zbf L:=if_pos rfl
theorem Ztk {o a:List UInt8} (h:(10:UInt8)∉a):(o++(a++[10])).count 10=o.count 10+1:=by
 rw[Ms,Ms,List.count_eq_zero.2 h];rfl
theorem Zrw (s:List UInt8):(headD s).length<=s.length:=by unfold headD;exact (List.takeWhile_sublist _).length_le
theorem Zu9 (s:List UInt8):bdD (ZcE s)<=s.length+576:=by
 cases h:Zbh s with
 |none=>rw[(ZfF h).1];unfold bdD Zgj;have j:(⟨#[]⟩:ByteArray).size=0:=rfl;simp only[List.length_nil];omega
 |some d=>
  rw[(Zkt h).1];obtain ⟨k,b,l,a⟩:=ZsI h;cases g:Za4 (ZbY s) with
  |some m=>unfold ZcD at a;rw[g] at a;simp only at a;subst a;obtain ⟨R,C,t,v,c,e,n, -⟩:=Zl (ZdC.1 g).1;have:R*C<=24*24:=Nat.mul_le_mul c e;have o:=Zrw s;have p:=Zy (headD s);unfold bdD;simp only;have j:(⟨#[]⟩:ByteArray).size=0:=rfl;omega
  |none=>
   have q:=Zk0 l (a▸b) g;unfold ZcD at a;rw[g] at a;simp only at a;have f:=k;rw[←a] at b f;unfold ZbE at b;rw[if_pos f] at b;simp only at b;rw[if_neg q.1] at b;have r:(headD s++32::(opw (ZbF ((Zat s).getD 0 []) 9)++32::((Zat s).getD 1 []++if (Za ((Zat s).getD 2 [])).toList.isEmpty=true then [] else 32::(Zat s).getD 2 []))).length=s.length:=congrArg ME b;simp only[JY,Kw] at r;rw[←a];unfold bdD;simp only;have o:=Zy (headD s);have p:=Zy ((Zat s).getD 1 []);have w:=Zy ((Zat s).getD 2 []);have x:((Zat s).getD 2 []).length<=(if (Za ((Zat s).getD 2 [])).toList.isEmpty=true then ([]:List UInt8) else 32::(Zat s).getD 2 []).length:=by
    split
    ·rename_i i;rw[ZqJ] at i;simp at i;simp[i]
    ·simp
   have y:zeroP.cells.length=0:=rfl;omega

end Go.Proofs.YtgjefeiddfjjnaaGreatDoor
