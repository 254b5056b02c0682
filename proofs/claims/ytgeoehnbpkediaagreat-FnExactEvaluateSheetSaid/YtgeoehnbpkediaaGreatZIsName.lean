/- Names of definitions: what the reference's and the program's IsName return, for all strings. -/
import Derived.Test.YtgeoehnbpkediaaGreatZDef
set_option maxHeartbeats 8000000
set_option maxRecDepth 100000
namespace Go.Proofs.YtgeoehnbpkediaaGreat
open Go.RowKit
open Lib (hid)
variable {S:Nat->Prop} {k:Nat} {s:ByteArray} {v:Value} {w:World}
def Zfj (s:ByteArray) (k:Nat):Prop:= ∀ j (h:j<s.size),j<k->65<=(s[j].toNat:Int)/\(s[j].toNat:Int)<=90
def Zlm (l:List UInt8):Bool:=l.all (fun c=>decide (65<=c.toNat)&&decide (c.toNat<=90))&&(decide (1<=l.length)&&decide (l.length<=6))
def ZB (s:ByteArray):Bool:=Zlm s.data.toList
theorem ZcX (s:ByteArray):ZB s=true↔Zfj s s.size/\1<=s.size/\s.size<=6:=by
 have e:s.data.toList.length=s.size:=by rw[Array.length_toList];rfl
 unfold ZB Zlm Zfj
 rw[Bool.and_eq_true,Bool.and_eq_true,e,List.all_eq_true,decide_eq_true_eq,decide_eq_true_eq]
 refine and_congr_left fun _=>⟨fun h j hj _=> ?_,fun h c hc=> ?_⟩
 ·have:=h s[j] (List.mem_iff_getElem.2 ⟨j,by omega,rfl⟩)
  simp at this;omega
 ·obtain ⟨j,hj,rfl⟩:=List.mem_iff_getElem.1 hc
  have:=h j (by omega) (by omega)
  have e2:s[j]=s.data[j]:=rfl
  rw[e2] at this;simp;omega
theorem Zeo (hk:k<s.size) (h:(s[k].toNat:Int)<65\/90<(s[k].toNat:Int)):ZB s=false:=by
 rw[Bool.eq_false_iff,ne_eq,ZcX]
 intro hh;have:=hh.1 k hk hk;omega
theorem Zg4 (h:Zfj s k) (hk:k<s.size) (h1:65<=(s[k].toNat:Int)) (h2:(s[k].toNat:Int)<=90):Zfj s (k+1):=fun j hj hlt=>by
 by_cases e:j=k
 ·subst e;exact ⟨h1,h2⟩
 ·exact h j hj (by omega)
theorem Zd (s:ByteArray) (w:World) (hs:s.size<=maxLen):Calls Tryz.prog 73 #[.string s] w fun e w'=>e= .returned (.bool (ZB s))/\w=w':=by
 unfold maxLen at hs
 go_enter Tryz.func73,Tryz.ntmps73
 go_wp2
 go_loop [3] (fun i=> ∃ k:Nat,k<=s.size/\i= .int .i64 k/\Zfj s k) (fun i=>s.size-(intOf i).toNat)
 case atStart=>exact ⟨0,Nat.zero_le _,rfl,fun _ _ h=>by omega⟩
 case round=>
  obtain ⟨k,hk,rfl,he⟩:=hrel
  have He:=hid he;clear he
  by_cases hlt:k<s.size
  ·by_cases h1:(s[k].toNat:Int)<65
   ·go_wp2
    go_ret
    exact ⟨Zb (Zeo hlt (by omega)).symm,rfl⟩
   ·by_cases h2:90<(s[k].toNat:Int)
    ·go_wp2
     go_ret
     exact ⟨Zb (Zeo hlt (by omega)).symm,rfl⟩
    ·go_wp2
     go_round
     case rel=>exact ⟨k+1,by omega,by go_num,Zg4 He.out hlt (by omega) (by omega)⟩
     case measure=>simp[intOf];omega
  ·have:k=s.size:=by omega
   subst this
   go_wp2_with (go_at_call 66;refine (Zz _ _ _ _).mono ?_;rintro e w' ⟨rfl,rfl⟩)
   go_ret
   refine ⟨Zb ?_,rfl⟩
   have:=He.out
   rw[Bool.eq_iff_iff,ZcX];simp[inB,this];omega
theorem Zy (s:ByteArray) (w:World) (hs:s.size<=maxLen):Calls Tryz.prog 70 #[.string s] w fun e w'=>e= .returned (.bool (ZB s))/\w=w':=by
 unfold maxLen at hs
 go_enter Tryz.func70,Tryz.ntmps70
 go_wp2
 go_loop [6] (fun i=> ∃ k:Nat,k<=s.size/\i= .int .i64 k/\Zfj s k) (fun i=>s.size-(intOf i).toNat)
 case atStart=>exact ⟨0,Nat.zero_le _,rfl,fun _ _ h=>by omega⟩
 case round=>
  obtain ⟨k,hk,rfl,he⟩:=hrel
  have He:=hid he;clear he
  by_cases hlt:k<s.size
  ·by_cases h1:(s[k].toNat:Int)<65
   ·go_wp2
    go_ret
    exact ⟨Zb (Zeo hlt (by omega)).symm,rfl⟩
   ·by_cases h2:90<(s[k].toNat:Int)
    ·go_wp2
     go_ret
     exact ⟨Zb (Zeo hlt (by omega)).symm,rfl⟩
    ·go_wp2
     go_round
     case rel=>exact ⟨k+1,by omega,by go_num,Zg4 He.out hlt (by omega) (by omega)⟩
     case measure=>simp[intOf];omega
  ·have:k=s.size:=by omega
   subst this
   have:=He.out
   by_cases h1:1<=s.size
   ·go_wp2
    go_ret
    refine ⟨Zb ?_,rfl⟩
    rw[Bool.eq_iff_iff,ZcX];simp[this];try omega
   ·go_wp2
    go_ret
    refine ⟨Zb ?_,rfl⟩
    rw[Bool.eq_iff_iff,ZcX];simp[this];try omega
def ZL (m:Mat):Bool:=decide (m.rows=0)&&(decide (m.cols=0)&&decide (m.cells.length=0))
def Zh (d:Dfn):Bool:=ZB d.name&&(decide (0<=d.op/\d.op<=9)&&
 (if d.op = 0 then d.a.toList.isEmpty && (d.b.toList.isEmpty && Zg d.value)
  else if d.op<=2 then ZB d.a&&(ZB d.b&&ZL d.value)
  else ZB d.a&&(d.b.toList.isEmpty&&ZL d.value)))
theorem Zdy {m:Mat} (h:VM w S v m):Calls Tryz.prog 72 #[v] w fun e w'=>e= .returned (.bool (ZL m))/\Grow w w':=by
 obtain ⟨a,n,c,rfl,h,hr,hc⟩:=h
 have hl:=h.len
 have hG:Grow w (w.alloc (.cells #[.int .i64 m.rows, .int .i64 m.cols, .slice a n c] 28)):=(Grow.refl w).alloc _ _
 by_cases h1:m.rows=0
 ·have e1:(m.rows==0)=true:=by simp[h1]
  by_cases h2:m.cols=0
  ·have e2:(m.cols==0)=true:=by simp[h2]
   by_cases h3:n=0
   ·have e3:((n:Int)==0)=true:=by simp[h3]
    have H:=hid (show ZL m=true by unfold ZL;simp[h1,h2,hl,h3])
    clear h1 h2 h3 hl
    go_enter Tryz.func72,Tryz.ntmps72
    go_wp2
    all_goals (go_ret;exact ⟨Zb (by rw[H.out]),hG⟩)
   ·have e3:((n:Int)==0)=false:=by simp[h3]
    have H:=hid (show ZL m=false by unfold ZL;simp[h1,h2,hl,h3])
    clear h1 h2 h3 hl
    go_enter Tryz.func72,Tryz.ntmps72
    go_wp2
    all_goals (go_ret;exact ⟨Zb (by rw[H.out]),hG⟩)
  ·have e2:(m.cols==0)=false:=by simp[h2]
   have H:=hid (show ZL m=false by unfold ZL;simp[h1,h2])
   clear h1 h2 hl
   go_enter Tryz.func72,Tryz.ntmps72
   go_wp2
   all_goals (go_ret;exact ⟨Zb (by rw[H.out]),hG⟩)
 ·have e1:(m.rows==0)=false:=by simp[h1]
  have H:=hid (show ZL m=false by unfold ZL;simp[h1])
  clear h1 hl
  go_enter Tryz.func72,Tryz.ntmps72
  go_wp2
  all_goals (go_ret;exact ⟨Zb (by rw[H.out]),hG⟩)
theorem ZkM {d:Dfn} (h:VD w S v d) (hb:d.value.cells.length<=2097152):Calls Tryz.prog 44 #[v] w fun e w'=>e= .returned (.bool (Zh d))/\Grow w w':=by
 obtain ⟨a,n,c,rfl,h,ho⟩:=h
 obtain ⟨o1,o2,o3,o4,o5,o6⟩:=ho
 have hlen:=h.len
 obtain ⟨w0,hw0⟩: ∃ w0,w0=w.alloc (.cells #[.string d.name, .int .i64 d.op, .string d.a, .string d.b, .int .i64 d.value.rows, .int .i64 d.value.cols, .slice a n c] 30):=⟨_,rfl⟩
 have hG0:Grow w w0:=by rw[hw0];exact (Grow.refl w).alloc _ _
 have hvm:VM w0 S (.agg #[.int .i64 d.value.rows, .int .i64 d.value.cols, .slice a n c]) d.value:=⟨a,n,c,rfl,h.grow hG0,o5,o6⟩
 unfold I64 at o2
 have Hw0:=hid hw0;clear hw0
 have Hlen:=hid hlen;clear hlen
 cases hN:ZB d.name with
 |false=>
  have H:=hid (show Zh d=false by unfold Zh;rw[hN];rfl)
  have HN:=hid hN;clear hN
  go_enter Tryz.func44,Tryz.ntmps44
  go_wp2_with fail
  refine (Zy _ _ o1).mono ?_
  rintro e w' ⟨rfl,rfl⟩
  rw[HN.out]
  go_wp2
  go_ret
  exact ⟨Zb (by rw[H.out]),by rw[←Hw0.out];exact hG0⟩
 |true=>
  have HN:=hid hN;clear hN
  by_cases hr:0<=d.op/\d.op<=9
  ·obtain ⟨hr1,hr2⟩:=hr
   by_cases h0:d.op=0
   ·have e0:(d.op==0)=true:=by simp[h0]
    have HD:=hid (show Zh d=(d.a.toList.isEmpty&&(d.b.toList.isEmpty&&Zg d.value)) by unfold Zh;rw[HN.out,if_pos h0,decide_eq_true ⟨hr1,hr2⟩];rfl)
    clear h0
    cases ha:d.a.toList.isEmpty with
    |false=>
     have H:=hid (show Zh d=false by rw[HD.out,ha];rfl)
     go_enter Tryz.func44,Tryz.ntmps44
     go_wp2_with fail
     refine (Zy _ _ o1).mono ?_
     rintro e w' ⟨rfl,rfl⟩
     rw[HN.out]
     go_wp2
     go_ret
     exact ⟨Zb (by rw[H.out]),by rw[←Hw0.out];exact hG0⟩
    |true=>
     cases hb0:d.b.toList.isEmpty with
     |false=>
      have H:=hid (show Zh d=false by rw[HD.out,ha,hb0];rfl)
      go_enter Tryz.func44,Tryz.ntmps44
      go_wp2_with fail
      refine (Zy _ _ o1).mono ?_
      rintro e w' ⟨rfl,rfl⟩
      rw[HN.out]
      go_wp2
      go_ret
      exact ⟨Zb (by rw[H.out]),by rw[←Hw0.out];exact hG0⟩
     |true=>
      have H:=hid (show Zh d=Zg d.value by rw[HD.out,ha,hb0];rfl)
      go_enter Tryz.func44,Tryz.ntmps44
      go_wp2_with fail
      refine (Zy _ _ o1).mono ?_
      rintro e w' ⟨rfl,rfl⟩
      rw[HN.out]
      go_wp2_with fail
      rw[←Hw0.out]
      refine (ZV hvm (by unfold bdM;omega)).mono ?_
      rintro e w1 ⟨rfl,hG1⟩
      go_wp2
      go_ret
      exact ⟨Zb (by rw[H.out]),hG0.trans hG1⟩
   ·have e0:(d.op==0)=false:=by simp[h0]
    by_cases h2:d.op<=2
    ·skip
     by_cases h1:d.op=1
     ·have e1:(d.op==1)=true:=by simp[h1]
      clear h1
      have HD:=hid (show Zh d=(ZB d.a&&(ZB d.b&&ZL d.value)) by unfold Zh;rw[HN.out,if_neg h0,if_pos h2,decide_eq_true ⟨hr1,hr2⟩];rfl)
      cases ha0:ZB d.a with
      |false=>
       have H:=hid (show Zh d=false by rw[HD.out,ha0];rfl)
       have HA:=hid ha0;clear ha0
       go_enter Tryz.func44,Tryz.ntmps44
       go_wp2_with fail
       refine (Zy _ _ o1).mono ?_
       rintro e w' ⟨rfl,rfl⟩
       rw[HN.out]
       go_wp2_with fail
       refine (Zy _ _ o3).mono ?_
       rintro e w' ⟨rfl,rfl⟩
       rw[HA.out]
       go_wp2
       go_ret
       exact ⟨Zb (by rw[H.out]),by rw[←Hw0.out];exact hG0⟩
      |true=>
       have HA:=hid ha0;clear ha0
       cases hb0:ZB d.b with
       |false=>
        have H:=hid (show Zh d=false by rw[HD.out,HA.out,hb0];rfl)
        have HBB:=hid hb0;clear hb0
        go_enter Tryz.func44,Tryz.ntmps44
        go_wp2_with fail
        refine (Zy _ _ o1).mono ?_
        rintro e w' ⟨rfl,rfl⟩
        rw[HN.out]
        go_wp2_with fail
        refine (Zy _ _ o3).mono ?_
        rintro e w' ⟨rfl,rfl⟩
        rw[HA.out]
        go_wp2_with fail
        refine (Zy _ _ o4).mono ?_
        rintro e w' ⟨rfl,rfl⟩
        rw[HBB.out]
        go_wp2
        go_ret
        exact ⟨Zb (by rw[H.out]),by rw[←Hw0.out];exact hG0⟩
       |true=>
        have H:=hid (show Zh d=ZL d.value by rw[HD.out,HA.out,hb0];rfl)
        have HBB:=hid hb0;clear hb0
        go_enter Tryz.func44,Tryz.ntmps44
        go_wp2_with fail
        refine (Zy _ _ o1).mono ?_
        rintro e w' ⟨rfl,rfl⟩
        rw[HN.out]
        go_wp2_with fail
        refine (Zy _ _ o3).mono ?_
        rintro e w' ⟨rfl,rfl⟩
        rw[HA.out]
        go_wp2_with fail
        refine (Zy _ _ o4).mono ?_
        rintro e w' ⟨rfl,rfl⟩
        rw[HBB.out]
        go_wp2_with fail
        rw[←Hw0.out]
        refine (Zdy hvm).mono ?_
        rintro e w1 ⟨rfl,hG1⟩
        go_wp2
        go_ret
        exact ⟨Zb (by rw[H.out]),hG0.trans hG1⟩
     ·have e1:(d.op==1)=false:=by simp[h1]
      have e2:(d.op==2)=true:=by simp;omega
      have HD:=hid (show Zh d=(ZB d.a&&(ZB d.b&&ZL d.value)) by unfold Zh;rw[HN.out,if_neg h0,if_pos h2,decide_eq_true ⟨hr1,hr2⟩];rfl)
      cases ha0:ZB d.a with
      |false=>
       have H:=hid (show Zh d=false by rw[HD.out,ha0];rfl)
       have HA:=hid ha0;clear ha0
       go_enter Tryz.func44,Tryz.ntmps44
       go_wp2_with fail
       refine (Zy _ _ o1).mono ?_
       rintro e w' ⟨rfl,rfl⟩
       rw[HN.out]
       go_wp2_with fail
       refine (Zy _ _ o3).mono ?_
       rintro e w' ⟨rfl,rfl⟩
       rw[HA.out]
       go_wp2
       go_ret
       exact ⟨Zb (by rw[H.out]),by rw[←Hw0.out];exact hG0⟩
      |true=>
       have HA:=hid ha0;clear ha0
       cases hb0:ZB d.b with
       |false=>
        have H:=hid (show Zh d=false by rw[HD.out,HA.out,hb0];rfl)
        have HBB:=hid hb0;clear hb0
        go_enter Tryz.func44,Tryz.ntmps44
        go_wp2_with fail
        refine (Zy _ _ o1).mono ?_
        rintro e w' ⟨rfl,rfl⟩
        rw[HN.out]
        go_wp2_with fail
        refine (Zy _ _ o3).mono ?_
        rintro e w' ⟨rfl,rfl⟩
        rw[HA.out]
        go_wp2_with fail
        refine (Zy _ _ o4).mono ?_
        rintro e w' ⟨rfl,rfl⟩
        rw[HBB.out]
        go_wp2
        go_ret
        exact ⟨Zb (by rw[H.out]),by rw[←Hw0.out];exact hG0⟩
       |true=>
        have H:=hid (show Zh d=ZL d.value by rw[HD.out,HA.out,hb0];rfl)
        have HBB:=hid hb0;clear hb0
        go_enter Tryz.func44,Tryz.ntmps44
        go_wp2_with fail
        refine (Zy _ _ o1).mono ?_
        rintro e w' ⟨rfl,rfl⟩
        rw[HN.out]
        go_wp2_with fail
        refine (Zy _ _ o3).mono ?_
        rintro e w' ⟨rfl,rfl⟩
        rw[HA.out]
        go_wp2_with fail
        refine (Zy _ _ o4).mono ?_
        rintro e w' ⟨rfl,rfl⟩
        rw[HBB.out]
        go_wp2_with fail
        rw[←Hw0.out]
        refine (Zdy hvm).mono ?_
        rintro e w1 ⟨rfl,hG1⟩
        go_wp2
        go_ret
        exact ⟨Zb (by rw[H.out]),hG0.trans hG1⟩
    ·skip
     have e1:(d.op==1)=false:=by simp;omega
     have e2:(d.op==2)=false:=by simp;omega
     have HD:=hid (show Zh d=(ZB d.a&&(d.b.toList.isEmpty&&ZL d.value)) by unfold Zh;rw[HN.out,if_neg h0,if_neg h2,decide_eq_true ⟨hr1,hr2⟩];rfl)
     cases ha0:ZB d.a with
     |false=>
      have H:=hid (show Zh d=false by rw[HD.out,ha0];rfl)
      have HA:=hid ha0;clear ha0
      go_enter Tryz.func44,Tryz.ntmps44
      go_wp2_with fail
      refine (Zy _ _ o1).mono ?_
      rintro e w' ⟨rfl,rfl⟩
      rw[HN.out]
      go_wp2_with fail
      refine (Zy _ _ o3).mono ?_
      rintro e w' ⟨rfl,rfl⟩
      rw[HA.out]
      go_wp2
      go_ret
      exact ⟨Zb (by rw[H.out]),by rw[←Hw0.out];exact hG0⟩
     |true=>
      have HA:=hid ha0;clear ha0
      cases hb0:d.b.toList.isEmpty with
      |false=>
       have H:=hid (show Zh d=false by rw[HD.out,HA.out,hb0];rfl)
       go_enter Tryz.func44,Tryz.ntmps44
       go_wp2_with fail
       refine (Zy _ _ o1).mono ?_
       rintro e w' ⟨rfl,rfl⟩
       rw[HN.out]
       go_wp2_with fail
       refine (Zy _ _ o3).mono ?_
       rintro e w' ⟨rfl,rfl⟩
       rw[HA.out]
       go_wp2
       go_ret
       exact ⟨Zb (by rw[H.out]),by rw[←Hw0.out];exact hG0⟩
      |true=>
       have H:=hid (show Zh d=ZL d.value by rw[HD.out,HA.out,hb0];rfl)
       go_enter Tryz.func44,Tryz.ntmps44
       go_wp2_with fail
       refine (Zy _ _ o1).mono ?_
       rintro e w' ⟨rfl,rfl⟩
       rw[HN.out]
       go_wp2_with fail
       refine (Zy _ _ o3).mono ?_
       rintro e w' ⟨rfl,rfl⟩
       rw[HA.out]
       go_wp2_with fail
       rw[←Hw0.out]
       refine (Zdy hvm).mono ?_
       rintro e w1 ⟨rfl,hG1⟩
       go_wp2
       go_ret
       exact ⟨Zb (by rw[H.out]),hG0.trans hG1⟩
  ·have H:=hid (show Zh d=false by unfold Zh;rw[HN.out,decide_eq_false hr];rfl)
   by_cases hr1:0<=d.op
   ·have hr2: ¬ d.op<=9:=fun e=>hr ⟨hr1,e⟩
    clear hr
    go_enter Tryz.func44,Tryz.ntmps44
    go_wp2_with fail
    refine (Zy _ _ o1).mono ?_
    rintro e w' ⟨rfl,rfl⟩
    rw[HN.out]
    go_wp2
    go_ret
    exact ⟨Zb (by rw[H.out]),by rw[←Hw0.out];exact hG0⟩
   ·clear hr
    go_enter Tryz.func44,Tryz.ntmps44
    go_wp2_with fail
    refine (Zy _ _ o1).mono ?_
    rintro e w' ⟨rfl,rfl⟩
    rw[HN.out]
    go_wp2
    go_ret
    exact ⟨Zb (by rw[H.out]),by rw[←Hw0.out];exact hG0⟩

end Go.Proofs.YtgeoehnbpkediaaGreat
