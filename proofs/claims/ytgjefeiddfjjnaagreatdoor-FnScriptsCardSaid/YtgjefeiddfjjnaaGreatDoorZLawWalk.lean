/- The walk of the law about scripts. -/
import Derived.Test.YtgjefeiddfjjnaaGreatDoorCards
import Derived.Test.YtgjefeiddfjjnaaGreatDoorTie
import Derived.Test.YtgjefeiddfjjnaaGreatDoorZShT
import Derived.Test.YtgjefeiddfjjnaaGreatDoorZEvR
import Derived.Test.YtgjefeiddfjjnaaGreatDoorZShM
import Derived.Test.YtgjefeiddfjjnaaGreatDoorZCloseL
import Derived.Stop.LaidErr
import Derived.Lay
set_option maxHeartbeats 8000000
set_option maxRecDepth 100000
namespace Go.Proofs.YtgjefeiddfjjnaaGreatDoor
open Go.RowKit Go.ChangeShapes
open Go.Proofs.Tryz
theorem Zog {L:List UInt8} {k:Nat} (h:k<(Za L).size):L[k]? =some (Za L)[k]:=by
 have a:k<L.length:=by rw[Zy] at h;exact h
 rw[List.getElem?_eq_getElem a];rfl
theorem Zvq (u:TypeId) (h:prog.typeName? 3 u=some "*errors.errorString"):u=267:=
 typeName_ptr_named (nm:= "errors.errorString") (by rw[show "*" ++ "errors.errorString" = "*errors.errorString" by decide];kernel_rfl) Ξ Φ u (by rw[show "*" ++ "errors.errorString" = "*errors.errorString" by decide];exact h)
theorem sent {n:String} {text:List UInt8} {r:List (String×DataW Unit)} {W:World} {g:Nat} (h:laidMet prog ((n, .iface "*errors.errorString" (.ptr (.agg [.lit (.string text)])))::r) W)
  (hg:prog.globalNamed n=some g) (ht:(prog.globals[g]?).map (·.type)=some 105): ∃ tp p,W.var? prog n=some #[.iface tp p]:=by
 obtain ⟨a,s,b, -⟩:=laid_sentinel h hg ht underlying105 Zvq underlying267 underlying269 rfl rfl underlying9 Ξ Ξ;exact ⟨_,_,b⟩
end Go.Proofs.YtgjefeiddfjjnaaGreatDoor
namespace Go.Proofs.YtgjefeiddfjjnaaGreatDoor.lawFnScripts
open Go.ChangeShapes Go.WideShapes Go.ChangeAt Go.RowKit
open Lib renaming hid->KD
open List renaming count_le_length->QX,length_take->Le
open Nat renaming lt_of_lt_of_le->Lj,zero_le->JI
open Go.Proofs.Tryz renaming checked->O7,f3->MR,func3->MQ,func5->QU,ntmps3->QW,ntmps5->QV,params3->QY,prog->JG
open World renaming laidAll->O6
open Go.Proofs.Tryz
theorem Zs9:prog.cellsOf 5=1:=Ξ
theorem table {W:World} (h:laidMetH JG Rows.fnScriptsRow.laid W) (hS:W.ShapedOpen JG):Env W:=by
 rw[MakeChecks.laidMetH_plain _ _ _ Ξ] at h;have a:=h.tail.tail;have b:=a.tail.tail;have c:=b.tail
 exact ⟨Lib.tabIs_of_head (n:=20) (by kernel_rfl:JG.globalNamed "internal/strconv.uint64pow10" =some 5) Ξ underlying254 underlying222 Ξ Ξ a,
  sent (g:=3) c Ξ Ξ,sent (g:=4) b Ξ Ξ,sh_laysM145.s1_3 W hS⟩
theorem Zuy (a:Option Addr) (n cap:Nat) (w:World) (b:Bool) (hb:decide (1048576<n)=b):
  Calls JG 5 #[.slice a n cap] w fun e w'=>e= .returned (.bool b)/\w=w':=by
 cases b with
 |true=>have h:=of_decide_eq_true hb;go_enter QU,QV;go_wp2;go_ret;exact ⟨Zm Ψ,rfl⟩
 |false=>have h:=of_decide_eq_false hb;go_enter QU,QV;go_wp2;go_ret;exact ⟨Zm Ψ,rfl⟩
theorem walk (a:Option Addr) (n cap:Nat) (bs:List Int) (w:World) (h:RdB w (fun _=>True) a n cap bs) (he:Env w):
  Calls JG 3 #[.slice a n cap] w fun e w'=>e= .returned (.bool true)/\Grow w w':=by
 have He:=KD he;clear he;by_cases v:1048576<n
 ·go_enter MQ,QW;go_wp2_with fail;refine (Zuy a n cap _ true (decide_eq_true v)).mono ?_;rintro e _ ⟨rfl,rfl⟩;go_wp2;go_ret;exact ⟨rfl,Grow.refl _⟩
 have R:=decide_eq_false v;go_enter MQ,QW;go_wp2_with fail;refine (Zuy a n cap _ false R).mono ?_;rintro e _ ⟨rfl,rfl⟩;clear R;go_wp2_with fail;refine (ZkN a n cap bs _ h I).mono ?_;rintro e w1 ⟨L,rfl,hl,hc,y⟩;have hN:Zbf L<=40:=by have:=Zr3 L;omega
 have a3:(Za L).size=L.length:=Zy L;go_wp2_with fail;refine (ZoY L _ I hN (He.out.grow y)).mono ?_;rintro e w2 ⟨O,rfl,hO,a4,V⟩;have W:=y.trans V;have a5:(Za O).size=O.length:=Zy O;have HO:=KD hO;clear hO y V;go_wp2;go_loopw [5,6] (fun c i wr=>Grow w2 wr/\ ∃ k:Nat,k<=L.length/\i= .int .i64 k/\c= .int .i64 (lnT L k)) (fun _ i _=>L.length-(intOf i).toNat);case atStart=>exact ⟨Grow.refl _,0,JI _,rfl,by rw[Zt7];rfl⟩
 case round=>
  obtain ⟨f,k,hk,rfl,rfl⟩:=hrel;by_cases j:k<(Za L).size
  ·have q:=Zog j;have an:lnT L k<=100000:=by
    unfold lnT;split
    ·omega
    ·have:=QX (a:=(10:UInt8)) (l:=L.take k);rw[Le] at this;omega
   by_cases b:((Za L)[k].toNat:Int)=10
   ·have q1:(((Za L)[k].toNat:Int)==10)=true:=(by simp[b]);have z:=KD (ZpT q (.inl (UInt8.toNat_inj.1 (by have:=b;simp;omega))));generalize lnT L k=T at *;clear q b;go_wp2;go_roundw;case rel=>exact ⟨f,k+1,I,Δ,by rw[z.out];go_num⟩
    case measure=>exact FN
   ·have q1:(((Za L)[k].toNat:Int)==10)=false:=(by simp[b]);by_cases o:k+1=L.length
    ·have q2:((k:Int)==((Za L).size:Int)-1)=true:=Ψ;have z:=KD (ZpT q (.inr o));generalize lnT L k=T at *;clear q b;go_wp2;go_roundw;case rel=>exact ⟨f,k+1,I,Δ,by rw[z.out];go_num⟩
     case measure=>exact FN
    ·have q2:((k:Int)==((Za L).size:Int)-1)=false:=Ψ;have z:=KD (Ztc q (fun e=>b ξ) o);generalize lnT L k=T at *;clear q b;go_wp2;go_roundw;case rel=>exact ⟨f,k+1,I,Δ,by rw[z.out]⟩
     case measure=>exact FN
  ·obtain rfl:k=L.length:=I;rw[ZuR];have X:=W.trans f;clear f W;obtain ⟨wo,rfl⟩:=eX wr;go_wp2;go_loopw [7,8] (fun c i wr=>Grow wo wr/\ ∃ k:Nat,k<=O.length/\i= .int .i64 k/\c= .int .i64 ((O.take k).count 10:Nat)) (fun _ i _=>O.length-(intOf i).toNat);case atStart=>exact ⟨Grow.refl _,0,JI _,rfl,rfl⟩
   case round=>
    obtain ⟨f,k,hk,rfl,rfl⟩:=hrel;by_cases j:k<(Za O).size
    ·have q:=Zog j;have an:(O.take k).count 10<=50000000:=(by have:=QX (a:=(10:UInt8)) (l:=O.take k);rw[Le] at this;omega);have t:=Zkl q;by_cases b:((Za O)[k].toNat:Int)=10
     case' pos=>have q1:(((Za O)[k].toNat:Int)==10)=true:=(by simp[b]);rw[if_pos (UInt8.toNat_inj.1 (by have:=b;simp;omega))] at t
     case' neg=>have q1:(((Za O)[k].toNat:Int)==10)=false:=(by simp[b]);rw[if_neg (fun e=>b ξ),Nat.add_zero] at t
     all_goals
      have z:=KD t;generalize (O.take k).count 10=T at *;clear q b t;go_wp2;go_roundw;case rel=>exact ⟨f,k+1,I,Δ,by rw[z.out]<;>try go_num⟩
      case measure=>exact FN
    ·obtain rfl:k=O.length:=I;rw[List.take_length,HO.out];have A:=X.trans f;clear f X HO;go_wp2_with fail;refine (ZnK L _ I hN (He.out.grow A)).mono ?_;rintro e w3 ⟨la,x,lc,D,rfl,rD,Y,Z⟩;have ao:=rD.len;have a6:x<=423080:=(by unfold ZaE at Y;omega);have aa:=ZsJ Y;have ap:=KD aa;clear aa;go_wp2_with fail;refine (ZuZ rD I (fun d hd=>by have:=ap.out d hd;omega)).mono ?_;rintro e w4 ⟨ra,rc,rfl,rR,B,ab⟩;have aq:=KD ab;have ad:=(A.trans Z).trans B;have ae:=rD.grow B;obtain ⟨M,hM⟩:=eX ((Zaq D).length);rw[←hM] at rR ⊢;have ar:0<M->Zaa D=true:=fun h=>by
      rw[hM] at h;unfold Zaq at h;split at h
      ·assumption
      ·simp at h
     have a7:M<=x:=by
      rw[hM, ←ao];unfold Zaq;split
      ·simp[rsL]
      ·simp
     clear ab A Z B rD hM;go_wp2;go_loopw [11,12,13] (fun i _ _ wr=>Grow w4 wr/\ ∃ k:Nat,k<=x/\i= .int .i64 k) (fun i _ _ _=>x-(intOf i).toNat);case atStart=>exact ⟨Grow.refl _,0,JI _,rfl⟩
     case round=>
      obtain ⟨f,k,hk,rfl⟩:=hrel;have C:=ad.trans f;by_cases j:k<x
      ·by_cases hm:M=x
       ·subst hm;have hs:=ar I;obtain ⟨b1,o1,d,a1,c1,rfl,hd, -,a8,A1,R1,k1⟩:=(ae.grow f).at j;obtain ⟨b2,o2,r,a2,c2,rfl,hr, -,av,A2,R2,k2⟩:=(rR.grow f).at (k:=k) I;obtain ⟨E,af⟩:=ZuN hs hd hr;have a9:=ZdB E;have n0:=A1.1;have q0:((M:Int)==(M:Int))=true:=Θ;have ag:=aq.out r (List.mem_of_getElem? hr);have aw:=KD af;have ax:=KD (Zjv E).2;have ah:=ae.grow f;have ba:=k2.1;clear hd hr af E hs;go_wp2_with fail;have hV:VSes wr (fun _=>True) (.agg #[.slice (some ⟨b1,o1,none⟩) M lc, .slice none 0 0]) D []:=⟨_,_,_,none,0,0,rfl,ah,OwP.nilw.rd fun _ h=>h⟩;have hz:((⟨#[115,104,111,119,32]⟩:ByteArray)++d.name).size<=400000:=CP;have hE:=He.out.grow C;have hc:=ZiH (P:=[]) hV I (fun p h=>Ω) Θ hz hE;refine hc.mono ?_;clear hc hE hz hV;rintro e w5 ⟨v5,s,rfl,D5,P5,⟨xa,xn,xc,qa,qn,qc,rfl, -, -⟩,⟨-, -, -,ai⟩,aj⟩;have N:=ai d.name.data.toList ⟨by rw[ByteArray.data_append,Array.toList_append];rfl,ax.out⟩;rw[ZeU,aw.out] at N;obtain ⟨w6,G,ak, -, -⟩:=al1 w5 #[.slice xa xn xc, .slice qa qn qc] 32;have g:=aj.trans ak;have A6:=A2.grow g;have R6:=R2.grow g;have H:=f.trans g;have al:=KD G;obtain ⟨m0,m1,m2,m3⟩:=A6;have am:b2<w6.heap.size:=Lj av g.size;have M3:=KD (And.intro m3 am);rw[G] at m0 m1 m2 m3 am;obtain ⟨ay,az⟩:=k2;have a0:=ag.2;generalize rsM r=m at *;clear G ai A2 R2 aj ak n0 A1 R1 k1 ag ah;cases hf:r.isSome with
        |false=>
         rw[hf] at m3 N;obtain rfl:s=⟨#[110,111,110,101]⟩:=N;go_wp2;rw[←al.out];go_roundw;case rel=>exact ⟨H,k+1,I,Δ⟩
         case measure=>exact FN
        |true=>
         rw[hf] at m3 N;obtain ⟨F,hF⟩:=eX (Za (ZaG m));obtain rfl:s=F:=(by rw[hF];exact N);have HF:=KD hF;have q1:(s.toList==s.toList)=true:=beq_self_eq_true _;clear hF N;go_wp2_with fail;rw[←al.out];refine (Zcm (S:=fun _=>True) (m:=m) ⟨a2,_,c2,rfl,R6.weak fun _ _ _=>trivial,ay,az⟩ Bq (He.out.tab.grow (ad.trans H))).mono ?_;rintro e w7 ⟨rfl,J⟩;rw[←HF.out];have n3:=J.cell M3.out.1;rw[hf] at n3;have bb:b2<w7.heap.size:=Lj M3.out.2 J.size;go_wp2;go_roundw;case rel=>exact ⟨H.trans J,k+1,I,Δ⟩
         case measure=>exact FN
       ·have q0:((M:Int)==(x:Int))=false:=Ψ;go_wp2;go_ret;exact ⟨Zm Θ,C⟩
      ·obtain rfl:k=x:=I;go_wp2;go_ret;exact ⟨Zm Θ,C⟩
end Go.Proofs.YtgjefeiddfjjnaaGreatDoor.lawFnScripts
