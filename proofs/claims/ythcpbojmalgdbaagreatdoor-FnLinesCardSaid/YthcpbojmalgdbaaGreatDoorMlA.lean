/- Merged out of this seat's own texts. -/
import Derived.Test.YthcpbojmalgdbaaGreatDoorProg
import Derived.Test.YthcpbojmalgdbaaGreatDoorMlC
import Derived.Below
import Derived.Deep.Draws
import Derived.Deep.AppendLies
import Derived.Maps.AppendAt
import Derived.OwnWalk
import Derived.Laws.BytesArg
import Derived.Laws.MakeOwn
import Derived.Laws.OwnMore
import Derived.Deep.OwnRows
import Derived.Tactics
import Derived.Lib.ConvBytes
import Derived.Laws.Slices
import Derived.WalkKit
import Derived.KernelRfl
import Derived.RowKit3
import Derived.Deep.LoopGhost
import Derived.Deep.QuietTactic
import Derived.BigQuiet
import Derived.WideLaws
import Derived.Deep.DeepCutAuto
import Derived.Deep.CutBlock
import Derived.Deep.RegionHeld3
import Derived.Laws.Rows
import Derived.Lib.AppendStr
import Derived.ArgAppend
import Derived.Laws.IdiomCopy
import Derived.OrdersHeld
import Derived.Laws.BitsLemmas
import Derived.RowKit
import Derived.Test.YthcpbojmalgdbaaGreatDoorMlWa
import Derived.Test.YthcpbojmalgdbaaGreatDoorMlWb
import Derived.Lib.Hide
import Derived.IntWalk
set_option linter.unusedVariables false
set_option linter.unusedSimpArgs false
namespace Go.Proofs.YthcpbojmalgdbaaGreatDoor.Q
open Go.RowKit Go.Proofs.YthcpbojmalgdbaaGreatDoorW.PrintWords Go.Proofs.YthcpbojmalgdbaaGreatDoorW.PrintLast Go.Proofs.YthcpbojmalgdbaaGreatDoorW.PrintMore
attribute [local go_sem] max2_int min2_int max_two min_two max_three min_three max_four min_four
def errW:Option Int→Value
 | none => .nilIface
 | some c => .iface 138 (.int .i64 c)
theorem errW_none:errW none = .nilIface:=rfl
theorem errW_some (c:Int):errW (some c) = .iface 138 (.int .i64 c):=rfl
theorem info5:(Tryz.prog.info? 5).map (fun i=>(i.zero,i.size,i.bytes))=some (some (.int .u8 0),1,1):=by kernel_rfl
abbrev S52:=Core.Visit
def z52:S52:=⟨(⟨#[]⟩:ByteArray),(0:Int),(0:Int)⟩
def k52:Kd S52:=Kd.iso (Kd.pair Kd.string (Kd.pair (Kd.int .i64) (Kd.int .i64))) (fun x:S52=>(x.f0,x.f1,x.f2))
theorem k52_open {w:World} {x:S52} {cs:List Value} (h:k52.K w x cs):cs=[.string x.f0, .int .i64 x.f1, .int .i64 x.f2]:=by
 obtain ⟨_,_,rfl,rfl,⟨_,_,rfl,rfl,rfl⟩⟩:=h
 exact rfl
theorem k52_mkM (w:World) (base:Nat) (ok:Nat→Prop) (x:S52)  : k52.M w base ok x [.string x.f0, .int .i64 x.f1, .int .i64 x.f2]:=⟨[.string x.f0],[.int .i64 x.f1, .int .i64 x.f2],rfl,rfl,⟨[.int .i64 x.f1],[.int .i64 x.f2],rfl,rfl,rfl⟩⟩
def rd_T52 (xs:List S52) (i:Int):S52:=xs.getD i.toNat z52
theorem at_T52 {w:World} {A:Option Addr} {n:Nat} {xs:List S52} (h:Kd.C k52 w A n xs) (i:Int) (h0:0≤i) (h1:i<n):∃ ad ,A=some ad∧w.cell? (ad.add (i.toNat*3))=some (.string (rd_T52 xs i).f0)∧w.cell? ⟨(ad.add (i.toNat*3)).block,(ad.add (i.toNat*3)).off+1,none⟩=some (.int .i64 (rd_T52 xs i).f1)∧w.cell? ⟨(ad.add (i.toNat*3)).block,(ad.add (i.toNat*3)).off+2,none⟩=some (.int .i64 (rd_T52 xs i).f2):=by
 obtain ⟨ad,c,e,_,hK,hc0⟩:=Kd.C_get h z52 i h0 h1
 have hc:∀ j u,c[j]? = some u→w.cell? (ad.add (i.toNat*3+j))=some u:=hc0
 obtain rfl:=k52_open hK
 exact ⟨ad,e,hc 0 _ rfl,by rw [← add_field _ _ 1 (by omega)];exact hc 1 _ rfl,by rw [← add_field _ _ 2 (by omega)];exact hc 2 _ rfl⟩
abbrev S45:=Core.Flight
def z45:S45:=⟨(⟨#[]⟩:ByteArray),(0:Int),(0:Int),([]:List S52)⟩
def k45:Kd S45:=Kd.iso (Kd.pair Kd.string (Kd.pair (Kd.int .i64) (Kd.pair (Kd.int .i64) (Kd.slice 52 k52)))) (fun x:S45=>(x.f0,x.f1,x.f2,x.f3))
theorem k45_open {w:World} {x:S45} {cs:List Value} (h:k45.K w x cs):∃ A3 c3,cs=[.string x.f0, .int .i64 x.f1, .int .i64 x.f2, .slice A3 x.f3.length c3]∧x.f3.length≤c3∧k52.C w A3 x.f3.length x.f3:=by
 obtain ⟨_,_,rfl,rfl,⟨_,_,rfl,rfl,⟨_,_,rfl,rfl,⟨A3,c3,rfl,l3,g3⟩⟩⟩⟩:=h
 exact ⟨A3,c3,rfl,l3,g3⟩
theorem k45_mk (w:World) (x:S45) {A3:Option Addr} {c3:Nat} (l3:x.f3.length≤c3) (g3:k52.C w A3 x.f3.length x.f3):k45.K w x [.string x.f0, .int .i64 x.f1, .int .i64 x.f2, .slice A3 x.f3.length c3]:=⟨[.string x.f0],[.int .i64 x.f1, .int .i64 x.f2, .slice A3 x.f3.length c3],rfl,rfl,⟨[.int .i64 x.f1],[.int .i64 x.f2, .slice A3 x.f3.length c3],rfl,rfl,⟨[.int .i64 x.f2],[.slice A3 x.f3.length c3],rfl,rfl,⟨A3,c3,rfl,l3,g3⟩⟩⟩⟩
theorem k45_mkM (w:World) (base:Nat) (ok:Nat→Prop) (x:S45) {v3:Value} (g3:k52.R 52 w base ok v3 x.f3):k45.M w base ok x [.string x.f0, .int .i64 x.f1, .int .i64 x.f2,v3]:=⟨[.string x.f0],[.int .i64 x.f1, .int .i64 x.f2,v3],rfl,rfl,⟨[.int .i64 x.f1],[.int .i64 x.f2,v3],rfl,rfl,⟨[.int .i64 x.f2],[v3],rfl,rfl,⟨v3,rfl,g3⟩⟩⟩⟩
def rd_T45 (xs:List S45) (i:Int):S45:=xs.getD i.toNat z45
theorem at_T45 {w:World} {A:Option Addr} {n:Nat} {xs:List S45} (h:Kd.C k45 w A n xs) (i:Int) (h0:0≤i) (h1:i<n):∃ ad A3 c3,A=some ad∧w.cell? (ad.add (i.toNat*4))=some (.string (rd_T45 xs i).f0)∧w.cell? ⟨(ad.add (i.toNat*4)).block,(ad.add (i.toNat*4)).off+1,none⟩=some (.int .i64 (rd_T45 xs i).f1)∧w.cell? ⟨(ad.add (i.toNat*4)).block,(ad.add (i.toNat*4)).off+2,none⟩=some (.int .i64 (rd_T45 xs i).f2)∧w.cell? ⟨(ad.add (i.toNat*4)).block,(ad.add (i.toNat*4)).off+3,none⟩=some (.slice A3 (rd_T45 xs i).f3.length c3)∧(rd_T45 xs i).f3.length≤c3∧k52.C w A3 (rd_T45 xs i).f3.length (rd_T45 xs i).f3:=by
 obtain ⟨ad,c,e,_,hK,hc0⟩:=Kd.C_get h z45 i h0 h1
 have hc:∀ j u,c[j]? = some u→w.cell? (ad.add (i.toNat*4+j))=some u:=hc0
 obtain ⟨A3,c3,rfl,l3,g3⟩:=k45_open hK
 exact ⟨ad,A3,c3,e,hc 0 _ rfl,by rw [← add_field _ _ 1 (by omega)];exact hc 1 _ rfl,by rw [← add_field _ _ 2 (by omega)];exact hc 2 _ rfl,by rw [← add_field _ _ 3 (by omega)];exact hc 3 _ rfl,l3,g3⟩
abbrev S80:=Core.Cap
def z80:S80:=⟨(⟨#[]⟩:ByteArray),(0:Int)⟩
def k80:Kd S80:=Kd.iso (Kd.pair Kd.string (Kd.int .i64)) (fun x:S80=>(x.f0,x.f1))
theorem k80_open {w:World} {x:S80} {cs:List Value} (h:k80.K w x cs):cs=[.string x.f0, .int .i64 x.f1]:=by
 obtain ⟨_,_,rfl,rfl,rfl⟩:=h
 exact rfl
theorem k80_openM {w:World} {base:Nat} {ok:Nat→Prop} {x:S80} {cs:List Value} (h:k80.M w base ok x cs):cs=[.string x.f0, .int .i64 x.f1]:=by
 obtain ⟨_,_,rfl,rfl,rfl⟩:=h
 exact rfl
theorem k80_mk (w:World) (x:S80)  : k80.K w x [.string x.f0, .int .i64 x.f1]:=⟨[.string x.f0],[.int .i64 x.f1],rfl,rfl,rfl⟩
theorem k80_mkM (w:World) (base:Nat) (ok:Nat→Prop) (x:S80)  : k80.M w base ok x [.string x.f0, .int .i64 x.f1]:=⟨[.string x.f0],[.int .i64 x.f1],rfl,rfl,rfl⟩
def rd_T80 (xs:List S80) (i:Int):S80:=xs.getD i.toNat z80
theorem at_T80 {w:World} {A:Option Addr} {n:Nat} {xs:List S80} (h:Kd.C k80 w A n xs) (i:Int) (h0:0≤i) (h1:i<n):∃ ad ,A=some ad∧w.cell? (ad.add (i.toNat*2))=some (.string (rd_T80 xs i).f0)∧w.cell? ⟨(ad.add (i.toNat*2)).block,(ad.add (i.toNat*2)).off+1,none⟩=some (.int .i64 (rd_T80 xs i).f1):=by
 obtain ⟨ad,c,e,_,hK,hc0⟩:=Kd.C_get h z80 i h0 h1
 have hc:∀ j u,c[j]? = some u→w.cell? (ad.add (i.toNat*2+j))=some u:=hc0
 obtain rfl:=k80_open hK
 exact ⟨ad,e,hc 0 _ rfl,by rw [← add_field _ _ 1 (by omega)];exact hc 1 _ rfl⟩
abbrev S74:=Core.Run
def z74:S74:=⟨(0:Int),(0:Int),(0:Int)⟩
def k74:Kd S74:=Kd.iso (Kd.pair (Kd.int .i64) (Kd.pair (Kd.int .i64) (Kd.int .i64))) (fun x:S74=>(x.f0,x.f1,x.f2))
theorem k74_open {w:World} {x:S74} {cs:List Value} (h:k74.K w x cs):cs=[.int .i64 x.f0, .int .i64 x.f1, .int .i64 x.f2]:=by
 obtain ⟨_,_,rfl,rfl,⟨_,_,rfl,rfl,rfl⟩⟩:=h
 exact rfl
theorem k74_openM {w:World} {base:Nat} {ok:Nat→Prop} {x:S74} {cs:List Value} (h:k74.M w base ok x cs):cs=[.int .i64 x.f0, .int .i64 x.f1, .int .i64 x.f2]:=by
 obtain ⟨_,_,rfl,rfl,⟨_,_,rfl,rfl,rfl⟩⟩:=h
 exact rfl
theorem k74_mkM (w:World) (base:Nat) (ok:Nat→Prop) (x:S74)  : k74.M w base ok x [.int .i64 x.f0, .int .i64 x.f1, .int .i64 x.f2]:=⟨[.int .i64 x.f0],[.int .i64 x.f1, .int .i64 x.f2],rfl,rfl,⟨[.int .i64 x.f1],[.int .i64 x.f2],rfl,rfl,rfl⟩⟩
def rd_T74 (xs:List S74) (i:Int):S74:=xs.getD i.toNat z74
theorem at_T74 {w:World} {A:Option Addr} {n:Nat} {xs:List S74} (h:Kd.C k74 w A n xs) (i:Int) (h0:0≤i) (h1:i<n):∃ ad ,A=some ad∧w.cell? (ad.add (i.toNat*3))=some (.int .i64 (rd_T74 xs i).f0)∧w.cell? ⟨(ad.add (i.toNat*3)).block,(ad.add (i.toNat*3)).off+1,none⟩=some (.int .i64 (rd_T74 xs i).f1)∧w.cell? ⟨(ad.add (i.toNat*3)).block,(ad.add (i.toNat*3)).off+2,none⟩=some (.int .i64 (rd_T74 xs i).f2):=by
 obtain ⟨ad,c,e,_,hK,hc0⟩:=Kd.C_get h z74 i h0 h1
 have hc:∀ j u,c[j]? = some u→w.cell? (ad.add (i.toNat*3+j))=some u:=hc0
 obtain rfl:=k74_open hK
 exact ⟨ad,e,hc 0 _ rfl,by rw [← add_field _ _ 1 (by omega)];exact hc 1 _ rfl,by rw [← add_field _ _ 2 (by omega)];exact hc 2 _ rfl⟩
end Go.Proofs.YthcpbojmalgdbaaGreatDoor.Q
namespace Go.Proofs.YthcpbojmalgdbaaGreatDoor.Q
open Go.RowKit Go.Proofs.YthcpbojmalgdbaaGreatDoorW.PrintWords Go.Proofs.YthcpbojmalgdbaaGreatDoor.Core
theorem inB_true {n lo hi:Int} (h:lo≤n∧n≤hi):inB n lo hi=true:=by simp [inB,h.1,h.2]
theorem impl_in_any (a b c:Int) (w:World):Calls Tryz.prog 65 #[.int .i64 a, .int .i64 b, .int .i64 c] w fun e w'=>e = .returned (.bool (inB a b c))∧w=w':=by
 by_cases h:b≤a
 ·have h1:decide (b≤a)=true:=decide_eq_true h
  go_enter Tryz.func65,Tryz.ntmps65
  go_wp2
  go_ret
  exact ⟨by simp [inB,h1],rfl⟩
 ·have h1:decide (b≤a)=false:=decide_eq_false h
  go_enter Tryz.func65,Tryz.ntmps65
  go_wp2
  go_ret
  exact ⟨by simp [inB,h1],rfl⟩
theorem spec_in_any (a b c:Int) (w:World):Calls Tryz.prog 45 #[.int .i64 a, .int .i64 b, .int .i64 c] w fun e w'=>e = .returned (.bool (inB a b c))∧w=w':=by
 by_cases h:b≤a
 ·have h1:decide (b≤a)=true:=decide_eq_true h
  go_enter Tryz.func45,Tryz.ntmps45
  go_wp2
  go_ret
  exact ⟨by simp [inB,h1],rfl⟩
 ·have h1:decide (b≤a)=false:=decide_eq_false h
  go_enter Tryz.func45,Tryz.ntmps45
  go_wp2
  go_ret
  exact ⟨by simp [inB,h1],rfl⟩
theorem ret_bool {a b:Bool} (h:a=b):Ending.returned (.bool a) = .returned (.bool b):=by rw [h]
def nameFrom (s:ByteArray) (k:Nat):Bool:=(s.data.toList.drop k).all fun c=>okByte c.toNat
theorem nameFrom_end (s:ByteArray):nameFrom s s.size=true:=by
 unfold nameFrom
 rw [List.drop_of_length_le (by simp)]
 rfl
theorem nameFrom_step (s:ByteArray) (k:Nat) (h:k<s.size):nameFrom s k=(okByte (bt s k) && nameFrom s (k+1)):=by
 unfold nameFrom
 have hl:k<s.data.toList.length:=by simpa using h
 rw [List.drop_eq_getElem_cons hl,List.all_cons]
 have e:bt s (k:Int)=((s.data.toList[k]).toNat:Int):=by
  unfold bt
  rw [dif_pos (show (k:Int).toNat<s.size from h)]
  rfl
 rw [e]
theorem nameB_from {s:ByteArray} (h:inB s.size 1 8=true):nameB s=nameFrom s 0:=by unfold nameB nameFrom;rw [h,List.drop_zero,Bool.true_and]
theorem byte_cases (c:Int):(decide (97≤c)=true∧decide (c≤122)=true∧Hid (okByte c=true)) ∨
  (decide (97≤c)=true∧decide (c≤122)=false∧decide (48≤c)=true∧decide (c≤57)=false∧(c == 45)=false∧Hid (okByte c=false)) ∨
  (decide (97≤c)=false∧decide (48≤c)=true∧decide (c≤57)=true∧Hid (okByte c=true)) ∨
  (decide (97≤c)=false∧decide (48≤c)=true∧decide (c≤57)=false∧(c == 45)=false∧Hid (okByte c=false)) ∨
  (decide (97≤c)=false∧decide (48≤c)=false∧(c == 45)=true∧Hid (okByte c=true)) ∨
  (decide (97≤c)=false∧decide (48≤c)=false∧(c == 45)=false∧Hid (okByte c=false)):=by
 unfold Hid okByte
 by_cases a:97≤c <;> by_cases b:c≤122 <;> by_cases d:48≤c <;> by_cases e:c≤57 <;> by_cases f:c=45 <;> simp [a,b,d,e,f] <;> omega
set_option maxHeartbeats 1000000 in
theorem impl_name_any (s:ByteArray) (w:World):Calls Tryz.prog 111 #[.string s] w fun e w'=>e = .returned (.bool (nameB s))∧w=w':=by
  cases hi:inB s.size 1 8 with
  | false =>
    have HI:=Lib.hid hi
    clear hi
    go_enter Tryz.func111,Tryz.ntmps111
    go_wp2_with (go_at_call 65;refine (impl_in_any _ _ _ _).mono ?_;rintro e w' ⟨rfl,rfl⟩;rw [HI.out])
    go_ret
    exact ⟨by simp [nameB,HI.out],rfl⟩
  | true =>
    have hs:s.size≤8:=by have:=(by simpa [inB] using hi:1≤(s.size:Int)∧(s.size:Int)≤8);omega
    have HI:=Lib.hid hi
    clear hi
    go_enter Tryz.func111,Tryz.ntmps111
    go_wp2_with (go_at_call 65;refine (impl_in_any _ _ _ _).mono ?_;rintro e w' ⟨rfl,rfl⟩;rw [HI.out])
    go_loop [3] (fun v=>∃ k:Nat,k≤s.size∧v = .int .i64 k∧Hid (nameFrom s k=nameFrom s 0)) (fun v=>s.size-(intOf v).toNat)
    case atStart=>exact ⟨0,Nat.zero_le _,rfl,rfl⟩
    case round =>
      obtain ⟨k,hk,rfl,hN⟩:=hrel
      by_cases hlt:k<s.size
      · have hst:=Lib.hid (nameFrom_step s k hlt)
        have hb:=Lib.hid (bt_at s k hlt)
        have bc:=byte_cases ((s[k]'hlt).toNat:Int)
        rcases bc with ⟨c1,c2,ho⟩ | ⟨c1,c2,c3,c4,c5,ho⟩ | ⟨c1,c2,c3,ho⟩ | ⟨c1,c2,c3,c4,ho⟩ | ⟨c1,c2,c3,ho⟩ | ⟨c1,c2,c3,ho⟩
        all_goals
          go_wp2
          first
          | (go_ret;exact ⟨ret_bool (by rw [nameB_from HI.out,← hN.out,hst.out,← hb.out];exact (congrArg (· && _) ho.out).symm),rfl⟩)
          | (go_round
             case rel=>exact ⟨k+1,by omega,by go_num,by show _=_;rw [← hN.out,hst.out,← hb.out];exact (congrArg (· && _) ho.out).symm⟩
             case measure=>simp [intOf];omega)
      · go_wp2
        go_ret
        obtain rfl:k=s.size:=by omega
        exact ⟨ret_bool (by rw [nameB_from HI.out,← hN.out,nameFrom_end]),rfl⟩
set_option maxHeartbeats 1000000 in
theorem spec_name_any (s:ByteArray) (w:World):Calls Tryz.prog 89 #[.string s] w fun e w'=>e = .returned (.bool (nameB s))∧w=w':=by
  cases hi:inB s.size 1 8 with
  | false =>
    have HI:=Lib.hid hi
    clear hi
    go_enter Tryz.func89,Tryz.ntmps89
    go_wp2_with (go_at_call 45;refine (spec_in_any _ _ _ _).mono ?_;rintro e w' ⟨rfl,rfl⟩;rw [HI.out])
    go_ret
    exact ⟨by simp [nameB,HI.out],rfl⟩
  | true =>
    have hs:s.size≤8:=by have:=(by simpa [inB] using hi:1≤(s.size:Int)∧(s.size:Int)≤8);omega
    have HI:=Lib.hid hi
    clear hi
    go_enter Tryz.func89,Tryz.ntmps89
    go_wp2_with (go_at_call 45;refine (spec_in_any _ _ _ _).mono ?_;rintro e w' ⟨rfl,rfl⟩;rw [HI.out])
    go_loop [3] (fun v=>∃ k:Nat,k≤s.size∧v = .int .i64 k∧Hid (nameFrom s k=nameFrom s 0)) (fun v=>s.size-(intOf v).toNat)
    case atStart=>exact ⟨0,Nat.zero_le _,rfl,rfl⟩
    case round =>
      obtain ⟨k,hk,rfl,hN⟩:=hrel
      by_cases hlt:k<s.size
      · have hst:=Lib.hid (nameFrom_step s k hlt)
        have hb:=Lib.hid (bt_at s k hlt)
        have bc:=byte_cases ((s[k]'hlt).toNat:Int)
        rcases bc with ⟨c1,c2,ho⟩ | ⟨c1,c2,c3,c4,c5,ho⟩ | ⟨c1,c2,c3,ho⟩ | ⟨c1,c2,c3,c4,ho⟩ | ⟨c1,c2,c3,ho⟩ | ⟨c1,c2,c3,ho⟩
        all_goals
          go_wp2
          first
          | (go_ret;exact ⟨ret_bool (by rw [nameB_from HI.out,← hN.out,hst.out,← hb.out];exact (congrArg (· && _) ho.out).symm),rfl⟩)
          | (go_round
             case rel=>exact ⟨k+1,by omega,by go_num,by show _=_;rw [← hN.out,hst.out,← hb.out];exact (congrArg (· && _) ho.out).symm⟩
             case measure=>simp [intOf];omega)
      · go_wp2
        go_ret
        obtain rfl:k=s.size:=by omega
        exact ⟨ret_bool (by rw [nameB_from HI.out,← hN.out,nameFrom_end]),rfl⟩
end Go.Proofs.YthcpbojmalgdbaaGreatDoor.Q
namespace Go.Proofs.YthcpbojmalgdbaaGreatDoor.Q
open Go.RowKit Go.Proofs.YthcpbojmalgdbaaGreatDoorW.PrintWords Go.Proofs.YthcpbojmalgdbaaGreatDoorW.PrintLast Go.Proofs.YthcpbojmalgdbaaGreatDoorW.PrintMore Go.Proofs.YthcpbojmalgdbaaGreatDoor.Core
theorem wrap_small {x:Int} (h0 : -1000000000000≤x) (h1:x≤1000000000000):wrap64 x=x:=by unfold wrap64;omega
theorem set_mid {α:Type} (a:List α) (x y:α) (b:List α):(a++x :: b).set a.length y=a++y :: b:=by simp
def iv (lo hi:Nat):Nat→Prop:=fun k=>lo≤k∧k<hi
section
variable {α:Type} {d:Kd α} {e base lo hi lo' hi':Nat} {w w1:World} {v:Value} {xs:List α} {ok:Nat→Prop}
theorem R_iv (h:d.R e w1 w.heap.size ok v xs):d.R e w1 w.heap.size (iv w.heap.size w1.heap.size) v xs:=Kd.R_mono (Kd.R_bound h) (fun _ hk=>⟨hk.2.1,hk.2.2.1⟩)
end
end Go.Proofs.YthcpbojmalgdbaaGreatDoor.Q
namespace Go.Proofs.YthcpbojmalgdbaaGreatDoor.Q
open Go.RowKit Go.Proofs.YthcpbojmalgdbaaGreatDoorW.PrintWords
structure After (W:World) where
 w:World
 hb:Below W.heap.size W w
instance (W : World) : Nonempty (After W) := ⟨⟨W, Below.refl _ _⟩⟩
theorem After.cell {W:World} {a:Addr} {v:Value} (h:W.cell? a=some v) (u:After W):u.w.cell? a=some v:=pw_cell_below u.hb h
theorem below_next {B:Nat} {W w1 w2:World} (h:Below B W w1) (hB:B≤w1.heap.size) (k:Below w1.heap.size w1 w2):Below B W w2:=below_then h hB k
theorem wp_region_after {P:Program} {id:Nat} {Q:Exit→Act→World→Prop} {a:Act} {w:World} {l:List Oper} (hm:P.follows .mixedOrders=true) (hB:Region.lexB .any l.toArray=true)
  (h:wpQuiet P l.toArray (fun w'=>∃ u:After w,w'=u.w) (fun a'=>∀ w',(∃ u:After w,w'=u.w)→Q .normal a' w') l a):(Code.region id l.toArray true).wp P Q a w :=
 wp_region_quiet (C:=fun w'=>∃ u:After w,w'=u.w) hm hB ⟨⟨_,below_drew (Below.refl _ _)⟩,rfl⟩ (by simpa using h)
theorem calls_after {P:Program} {f:FuncId} {args:Array Value} {W:World} {u:After W} {v:Value} (h:Calls P f args u.w fun e w''=>e = .returned v∧Below u.w.heap.size u.w w'') :
  Calls P f args u.w fun e w''=>e = .returned v∧∃ u':After W,w''=u'.w :=
 h.mono fun _ w'' ⟨he,hk⟩=>⟨he,⟨⟨w'',below_next u.hb u.hb.size hk⟩,rfl⟩⟩
theorem calls_after_same {P:Program} {f:FuncId} {args:Array Value} {W:World} {u:After W} {v:Value} (h:Calls P f args u.w fun e w''=>e = .returned v∧w''=u.w) :
  Calls P f args u.w fun e w''=>e = .returned v∧∃ u':After W,w''=u'.w :=
 h.mono fun _ _ ⟨he,hk⟩=>⟨he,u,hk⟩
end Go.Proofs.YthcpbojmalgdbaaGreatDoor.Q
namespace Go.Proofs.YthcpbojmalgdbaaGreatDoor.Q
open Go.RowKit Go.Proofs.YthcpbojmalgdbaaGreatDoorW.PrintWords Go.Proofs.YthcpbojmalgdbaaGreatDoor.Core
theorem cell_al {w:World} {a:Addr} {v:Value} (h:w.cell? a=some v) (o:Obj):(w.alloc o).cell? a=some v:=pw_cell_below ((Below.refl _ _).alloc (Nat.le_refl _) o) h
theorem capAt {w:World} {A:Option Addr} {xs:List Cap} (h:Kd.C k80 w A xs.length xs) (k:Nat) (hk:k<xs.length) :
  ∃ ad c,A=some ad∧xs[k]? = some c∧w.cell? (ad.add (k*2))=some (.string c.f0)∧w.cell? ⟨(ad.add (k*2)).block,(ad.add (k*2)).off+1,none⟩=some (.int .i64 c.f1):=by
 obtain ⟨ad,e,h0,h1⟩:=at_T80 h k (by omega) (by omega)
 have er:rd_T80 xs k=xs[k]:=by
  unfold rd_T80
  rw [Int.toNat_natCast,List.getD_eq_getElem?_getD,List.getElem?_eq_getElem hk]
  rfl
 rw [er] at h0 h1
 exact ⟨ad,xs[k],e,List.getElem?_eq_getElem hk,h0,h1⟩
set_option maxHeartbeats 1000000 in
theorem impl_capsOk_any (A:Option Addr) (c:Nat) (l:List Cap) (w:World) (hr:Kd.C k80 w A l.length l) (hc:l.length≤9223372036854775807) :
  Calls Tryz.prog 76 #[.slice A l.length c] w fun e w'=>e = .returned (.bool (capsB l))∧Below w.heap.size w w':=by
 by_cases hn:6<l.length
 ·have h1:decide ((6:Int)<l.length)=true:=by simp;omega
  have h2:decide (6<l.length)=true:=by simp;omega
  go_enter Tryz.func76,Tryz.ntmps76
  go_wp2
  go_ret
  exact ⟨ret_bool (by simp [capsB];omega),Below.refl _ _⟩
 ·have h1:decide ((6:Int)<l.length)=false:=by simp;omega
  have h2:decide (6<l.length)=false:=by simp;omega
  have hB:Hid (capsB l=fromB capB bySector l 0):=by
   show _=_
   rw [fromB_zero];unfold capsB
   rw [decide_eq_true (by omega:l.length≤6),Bool.true_and]
  go_enter Tryz.func76,Tryz.ntmps76
  go_wp2
  go_loopw [10] (fun v wr=>∃ k:Nat,k≤l.length∧v = .int .i64 k∧Hid (fromB capB bySector l k=fromB capB bySector l 0)∧Below w.heap.size w wr) (fun v _=>l.length-(intOf v).toNat)
  case atStart=>exact ⟨0,Nat.zero_le _,rfl,rfl,Below.refl _ _⟩
  case round =>
   obtain ⟨k,hk,rfl,hF,hb⟩:=hrel
   by_cases hlt:k<l.length
   ·obtain ⟨ad,x,rfl,hx,x0,x1⟩:=capAt (Kd.C_below hr hb) k hlt
    have hX:=Lib.hid hx
    clear hx
    have qn:∀ W:World,Calls Tryz.prog 111 #[.string x.f0] W fun e w'=>e = .returned (.bool (nameB x.f0))∧w'=W:=fun W=>(impl_name_any _ W).mono fun _ _ h=>⟨h.1,h.2.symm⟩
    have qi:∀ W:World,Calls Tryz.prog 65 #[.int .i64 x.f1, .int .i64 0, .int .i64 20] W fun e w'=>e = .returned (.bool (inB x.f1 0 20))∧w'=W:=fun W=>(impl_in_any _ _ _ W).mono fun _ _ h=>⟨h.1,h.2.symm⟩
    have QN:=Lib.hid qn
    have QI:=Lib.hid qi
    clear qn qi
    cases hn:nameB x.f0 with
    | false =>
     go_wp2
     go_quiet (first | (go_at_call 111;exact Calls.quiet_of_same (QN.out _)))
     go_wp2
     go_ret
     exact ⟨ret_bool (by rw [hB.out,← hF.out,fromB_bad _ _ _ _ _ hX.out (by simp [capB,hn])]),pw_below_drewN (hb.alloc hb.size _) _⟩
    | true =>
    cases hi:inB x.f1 0 20 with
    | false =>
     go_wp2
     go_quiet (first | (go_at_call 111;exact Calls.quiet_of_same (QN.out _)) | (go_at_call 65;exact Calls.quiet_of_same (QI.out _)))
     go_wp2
     go_ret
     exact ⟨ret_bool (by rw [hB.out,← hF.out,fromB_bad _ _ _ _ _ hX.out (by simp [capB,hn,hi])]),pw_below_drewN (hb.alloc hb.size _) _⟩
    | true =>
    by_cases hk0:k=0
    ·have j1:decide (0<k)=false:=decide_eq_false (by omega)
     have K0:=Lib.hid hk0
     clear hk0
     go_wp2
     go_quiet (first | (go_at_call 111;exact Calls.quiet_of_same (QN.out _)) | (go_at_call 65;exact Calls.quiet_of_same (QI.out _)))
     go_wp2
     go_roundw
     case rel=>exact ⟨k+1,by omega,by go_num,by show _=_;rw [← hF.out,fromB_good0 _ _ _ _ _ K0.out hX.out (by simp [capB,hn,hi])],pw_below_drewN (hb.alloc hb.size _) _⟩
     case measure=>simp [intOf];omega
    ·obtain ⟨k,rfl⟩:∃ j,k=j+1:=⟨k-1,by omega⟩
     clear hk0
     obtain ⟨ad2,p,e2,hp,p0,p1⟩:=capAt (Kd.C_below hr hb) k (by omega)
     obtain rfl:ad=ad2:=by injection e2
     have HP:=Lib.hid hp
     have p0:=cell_al p0
     clear hp e2
     have j1:decide (0<(k:Int)+1)=true:=decide_eq_true (by omega)
     have j2:(k:Int)<l.length:=by omega
     have j3:IntKind.i64.wrap (k:Int)=k:=IntWalk.i64_in _ (by omega)
     cases hle:lessB p.f0 x.f0 with
     | false =>
      have hl:Op.bytesLess p.f0.toList x.f0.toList=false:=hle
      go_wp2
      go_quiet (first | (go_at_call 111;exact Calls.quiet_of_same (QN.out _)) | (go_at_call 65;exact Calls.quiet_of_same (QI.out _)))
      go_wp2
      go_ret
      exact ⟨ret_bool (by rw [hB.out,← hF.out,fromB_bad2 _ _ _ _ _ _ HP.out hX.out hle]),pw_below_drewN (hb.alloc hb.size _) _⟩
     | true =>
      have hl:Op.bytesLess p.f0.toList x.f0.toList=true:=hle
      go_wp2
      go_quiet (first | (go_at_call 111;exact Calls.quiet_of_same (QN.out _)) | (go_at_call 65;exact Calls.quiet_of_same (QI.out _)))
      go_wp2
      go_roundw
      case rel=>exact ⟨k+1+1,by omega,by go_num,by show _=_;rw [← hF.out,fromB_good _ _ _ _ _ _ HP.out hX.out (by simp [capB,hn,hi]) hle],pw_below_drewN (hb.alloc hb.size _) _⟩
      case measure=>simp [intOf];omega
   ·go_wp2
    go_ret
    obtain rfl:k=l.length:=by omega
    exact ⟨ret_bool (by rw [hB.out,← hF.out,fromB_end _ _ _ _ (Nat.le_refl _)]),hb⟩
theorem visitAt {w:World} {A:Option Addr} {xs:List Visit} (h:Kd.C k52 w A xs.length xs) (k:Nat) (hk:k<xs.length) :
  ∃ ad c,A=some ad∧xs[k]? = some c∧w.cell? (ad.add (k*3))=some (.string c.f0)∧w.cell? ⟨(ad.add (k*3)).block,(ad.add (k*3)).off+1,none⟩=some (.int .i64 c.f1) ∧
   w.cell? ⟨(ad.add (k*3)).block,(ad.add (k*3)).off+2,none⟩=some (.int .i64 c.f2):=by
 obtain ⟨ad,e,h0,h1,h2⟩:=at_T52 h k (by omega) (by omega)
 have er:rd_T52 xs k=xs[k]:=by
  unfold rd_T52
  rw [Int.toNat_natCast,List.getD_eq_getElem?_getD,List.getElem?_eq_getElem hk]
  rfl
 rw [er] at h0 h1 h2
 exact ⟨ad,xs[k],e,List.getElem?_eq_getElem hk,h0,h1,h2⟩
theorem visitB_parts {v:Visit} (h:visitB v=true):nameB v.f0=true∧0≤v.f1∧v.f1≤200∧1≤v.f2∧v.f2≤30:=by
 simp only [visitB,inB,Bool.and_eq_true,decide_eq_true_eq] at h
 exact ⟨h.1.1,h.1.2.1,h.1.2.2,h.2.1,h.2.2⟩
set_option maxHeartbeats 2000000 in
theorem impl_flightOk_any (A:Option Addr) (c:Nat) (f:Flight) (w:World) (hr:Kd.C k52 w A f.f3.length f.f3) (hc:f.f3.length≤9223372036854775807) :
  Calls Tryz.prog 106 #[.agg #[.string f.f0, .int .i64 f.f1, .int .i64 f.f2, .slice A f.f3.length c]] w fun e w'=>e = .returned (.bool (flightB f))∧Below w.heap.size w w':=by
 obtain ⟨f0,f1,f2,l⟩:=f
 simp only at hr hc ⊢
 cases hn:nameB f0 with
 | false =>
  go_enter Tryz.func106,Tryz.ntmps106
  go_wp2_with (first | (go_at_call 111;refine (impl_name_any _ _).mono ?_;rintro e w' ⟨rfl,rfl⟩;rw [hn]))
  go_ret
  exact ⟨ret_bool (by simp [flightB,hn]),(Below.refl _ _).alloc (Nat.le_refl _) _⟩
 | true =>
 cases hp:inB f1 0 10000 with
 | false =>
  go_enter Tryz.func106,Tryz.ntmps106
  go_wp2_with (first | (go_at_call 111;refine (impl_name_any _ _).mono ?_;rintro e w' ⟨rfl,rfl⟩;rw [hn]) | (go_at_call 65;refine (impl_in_any _ _ _ _).mono ?_;rintro e w' ⟨rfl,rfl⟩))
  go_ret
  exact ⟨ret_bool (by simp [flightB,hn,hp]),(Below.refl _ _).alloc (Nat.le_refl _) _⟩
 | true =>
 cases hq:inB f2 0 60 with
 | false =>
  go_enter Tryz.func106,Tryz.ntmps106
  go_wp2_with (first | (go_at_call 111;refine (impl_name_any _ _).mono ?_;rintro e w' ⟨rfl,rfl⟩;rw [hn]) | (go_at_call 65;refine (impl_in_any _ _ _ _).mono ?_;rintro e w' ⟨rfl,rfl⟩))
  go_ret
  exact ⟨ret_bool (by simp [flightB,hn,hp,hq]),(Below.refl _ _).alloc (Nat.le_refl _) _⟩
 | true =>
 cases hl:inB l.length 1 5 with
 | false =>
  go_enter Tryz.func106,Tryz.ntmps106
  go_wp2_with (first | (go_at_call 111;refine (impl_name_any _ _).mono ?_;rintro e w' ⟨rfl,rfl⟩;rw [hn]) | (go_at_call 65;refine (impl_in_any _ _ _ _).mono ?_;rintro e w' ⟨rfl,rfl⟩))
  go_ret
  exact ⟨ret_bool (by simp [flightB,visitsB,hn,hp,hq,hl]),(Below.refl _ _).alloc (Nat.le_refl _) _⟩
 | true =>
  have hB:Hid (flightB ⟨f0,f1,f2,l⟩=fromB visitB apartB l 0):=by
   show _=_
   rw [fromB_zero];simp [flightB,visitsB,hn,hp,hq,hl]
  go_enter Tryz.func106,Tryz.ntmps106
  go_wp2_with (first | (go_at_call 111;refine (impl_name_any _ _).mono ?_;rintro e w' ⟨rfl,rfl⟩;rw [hn]) | (go_at_call 65;refine (impl_in_any _ _ _ _).mono ?_;rintro e w' ⟨rfl,rfl⟩))
  clear hn hp hq hl
  go_loopw [31] (fun v wr=>∃ k:Nat,k≤l.length∧v = .int .i64 k∧Hid (fromB visitB apartB l k=fromB visitB apartB l 0)∧Hid (∀ j p,j<k→l[j]? = some p→visitB p=true)∧Below (w.heap.size+1) (w.alloc (.cells #[.string f0, .int .i64 f1, .int .i64 f2, .slice A l.length c] 45)) wr) (fun v _=>l.length-(intOf v).toNat)
  case atStart=>exact ⟨0,Nat.zero_le _,rfl,rfl,fun j p h=>absurd h (Nat.not_lt_zero _),Below.refl _ _⟩
  case round =>
   obtain ⟨k,hk,rfl,hF,hV,hb⟩:=hrel
   have hsz:w.heap.size+1≤wr.heap.size:=by have:=hb.size;simpa using this
   have hbw:Below w.heap.size w wr:=((Below.refl _ _).alloc (Nat.le_refl _) _).trans (hb.mono (by omega))
   have hBW:=Lib.hid hbw
   by_cases hlt:k<l.length
   ·obtain ⟨ad,x,rfl,hx,x0,x1,x2⟩:=visitAt (Kd.C_below hr hbw) k hlt
    have hX:=Lib.hid hx
    have c3:wr.cell? ⟨w.heap.size,3,none⟩=some (.slice (some ad) l.length c):=(hb.cell (p:=⟨w.heap.size,3,none⟩) (by simp)).trans (by simp)
    clear hx hbw
    have qn:∀ W:World,Calls Tryz.prog 111 #[.string x.f0] W fun e w'=>e = .returned (.bool (nameB x.f0))∧w'=W:=fun W=>(impl_name_any _ W).mono fun _ _ h=>⟨h.1,h.2.symm⟩
    have qi:∀ a b d (W:World),Calls Tryz.prog 65 #[.int .i64 a, .int .i64 b, .int .i64 d] W fun e w'=>e = .returned (.bool (inB a b d))∧w'=W:=fun a b d W=>(impl_in_any _ _ _ W).mono fun _ _ h=>⟨h.1,h.2.symm⟩
    have QN:=Lib.hid qn
    have QI:=Lib.hid qi
    clear qn qi
    cases hn:nameB x.f0 with
    | false =>
     go_wp2
     go_quiet (first | (go_at_call 111;exact Calls.quiet_of_same (QN.out _)) | (go_at_call 65;exact Calls.quiet_of_same (QI.out _ _ _ _)))
     go_wp2
     go_ret
     exact ⟨ret_bool (by rw [hB.out,← hF.out,fromB_bad _ _ _ _ _ hX.out (by simp [visitB,hn])]),pw_below_drewN (hBW.out.alloc hBW.out.size _) _⟩
    | true =>
    cases hi:inB x.f1 0 200 with
    | false =>
     go_wp2
     go_quiet (first | (go_at_call 111;exact Calls.quiet_of_same (QN.out _)) | (go_at_call 65;exact Calls.quiet_of_same (QI.out _ _ _ _)))
     go_wp2
     go_ret
     exact ⟨ret_bool (by rw [hB.out,← hF.out,fromB_bad _ _ _ _ _ hX.out (by simp [visitB,hn,hi])]),pw_below_drewN (hBW.out.alloc hBW.out.size _) _⟩
    | true =>
    cases hj:inB x.f2 1 30 with
    | false =>
     go_wp2
     go_quiet (first | (go_at_call 111;exact Calls.quiet_of_same (QN.out _)) | (go_at_call 65;exact Calls.quiet_of_same (QI.out _ _ _ _)))
     go_wp2
     go_ret
     exact ⟨ret_bool (by rw [hB.out,← hF.out,fromB_bad _ _ _ _ _ hX.out (by simp [visitB,hn,hi,hj])]),pw_below_drewN (hBW.out.alloc hBW.out.size _) _⟩
    | true =>
    have hok:visitB x=true:=by simp [visitB,hn,hi,hj]
    have hV':Hid (∀ j p,j<k+1→l[j]? = some p→visitB p=true):=fun j p h1 h2=>by
     rcases Nat.lt_or_ge j k with h3 | h3
     ·exact hV.out j p h3 h2
     ·obtain rfl:j=k:=by omega
      rw [hX.out] at h2
      injection h2 with h2
      rw [← h2];exact hok
    have HOK:=Lib.hid hok
    clear hok
    by_cases hk0:k=0
    ·have j1:decide (0<k)=false:=decide_eq_false (by omega)
     have K0:=Lib.hid hk0
     clear hk0
     go_wp2
     go_quiet (first | (go_at_call 111;exact Calls.quiet_of_same (QN.out _)) | (go_at_call 65;exact Calls.quiet_of_same (QI.out _ _ _ _)))
     go_wp2
     go_roundw
     case rel=>exact ⟨k+1,by omega,by go_num,by show _=_;rw [← hF.out,fromB_good0 _ _ _ _ _ K0.out hX.out HOK.out],hV',pw_below_drewN (hb.alloc (by simpa using hsz) _) _⟩
     case measure=>simp [intOf];omega
    ·obtain ⟨k,rfl⟩:∃ j,k=j+1:=⟨k-1,by omega⟩
     clear hk0
     obtain ⟨ad2,p,e2,hp,p0,p1,p2⟩:=visitAt (Kd.C_below hr hBW.out) k (by omega)
     obtain rfl:ad=ad2:=by injection e2
     have pb:=visitB_parts (hV.out k p (by omega) hp)
     obtain ⟨_,pb1,pb2,pb3,pb4⟩:=pb
     have HP:=Lib.hid hp
     have p1:=cell_al p1
     have p2:=cell_al p2
     have c3:=cell_al c3
     clear hp e2 p0
     have j1:decide (0<(k:Int)+1)=true:=decide_eq_true (by omega)
     have j2:(k:Int)<l.length:=by omega
     have j3:IntKind.i64.wrap (k:Int)=k:=IntWalk.i64_in _ (by omega)
     have j4:IntKind.i64.wrap (p.f1+p.f2)=p.f1+p.f2:=IntWalk.i64_in _ (by omega)
     clear pb1 pb2 pb3 pb4
     cases hle:apartB p x with
     | false =>
      have hl:decide (x.f1<p.f1+p.f2)=true:=by simp only [apartB,decide_eq_false_iff_not] at hle;exact decide_eq_true (by omega)
      go_wp2
      go_quiet (first | (go_at_call 111;exact Calls.quiet_of_same (QN.out _)) | (go_at_call 65;exact Calls.quiet_of_same (QI.out _ _ _ _)))
      go_wp2
      go_ret
      exact ⟨ret_bool (by rw [hB.out,← hF.out,fromB_bad2 _ _ _ _ _ _ HP.out hX.out hle]),pw_below_drewN (hBW.out.alloc hBW.out.size _) _⟩
     | true =>
      have hl:decide (x.f1<p.f1+p.f2)=false:=by simp only [apartB,decide_eq_true_eq] at hle;exact decide_eq_false (by omega)
      go_wp2
      go_quiet (first | (go_at_call 111;exact Calls.quiet_of_same (QN.out _)) | (go_at_call 65;exact Calls.quiet_of_same (QI.out _ _ _ _)))
      go_wp2
      go_roundw
      case rel=>exact ⟨k+1+1,by omega,by go_num,by show _=_;rw [← hF.out,fromB_good _ _ _ _ _ _ HP.out hX.out HOK.out hle],hV',pw_below_drewN (hb.alloc (by simpa using hsz) _) _⟩
      case measure=>simp [intOf];omega
   ·go_wp2
    go_ret
    obtain rfl:k=l.length:=by omega
    exact ⟨ret_bool (by rw [hB.out,← hF.out,fromB_end _ _ _ _ (Nat.le_refl _)]),hBW.out⟩
theorem flightAt {w:World} {A:Option Addr} {xs:List Flight} (h:Kd.C k45 w A xs.length xs) (k:Nat) (hk:k<xs.length) :
  ∃ ad x A3 c3,A=some ad∧xs[k]? = some x∧w.cell? (ad.add (k*4))=some (.string x.f0)∧w.cell? ⟨(ad.add (k*4)).block,(ad.add (k*4)).off+1,none⟩=some (.int .i64 x.f1) ∧
   w.cell? ⟨(ad.add (k*4)).block,(ad.add (k*4)).off+2,none⟩=some (.int .i64 x.f2)∧w.cell? ⟨(ad.add (k*4)).block,(ad.add (k*4)).off+3,none⟩=some (.slice A3 x.f3.length c3) ∧
   x.f3.length≤c3∧Kd.C k52 w A3 x.f3.length x.f3:=by
 obtain ⟨ad,A3,c3,e,h0,h1,h2,h3,h4,h5⟩:=at_T45 h k (by omega) (by omega)
 have er:rd_T45 xs k=xs[k]:=by
  unfold rd_T45
  rw [Int.toNat_natCast,List.getD_eq_getElem?_getD,List.getElem?_eq_getElem hk]
  rfl
 rw [er] at h0 h1 h2 h3 h4 h5
 exact ⟨ad,xs[k],A3,c3,e,List.getElem?_eq_getElem hk,h0,h1,h2,h3,h4,h5⟩
theorem C_len {α:Type} {d:Kd α} {w:World} {A:Option Addr} {n:Nat} {xs:List α} (h:d.C w A n xs):n≤9223372036854775807:=h.2.1
set_option maxHeartbeats 2000000 in
theorem impl_flightsOk_any (A:Option Addr) (c:Nat) (l:List Flight) (w:World) (hr:Kd.C k45 w A l.length l) (hc:l.length≤9223372036854775807) :
  Calls Tryz.prog 77 #[.slice A l.length c] w fun e w'=>e = .returned (.bool (flightsB l))∧Below w.heap.size w w':=by
 by_cases hn:8<l.length
 ·have h1:decide ((8:Int)<l.length)=true:=by simp;omega
  have h2:decide (8<l.length)=true:=by simp;omega
  go_enter Tryz.func77,Tryz.ntmps77
  go_wp2
  go_ret
  exact ⟨ret_bool (by simp [flightsB];omega),Below.refl _ _⟩
 ·have h1:decide ((8:Int)<l.length)=false:=by simp;omega
  have h2:decide (8<l.length)=false:=by simp;omega
  have hB:Hid (flightsB l=fromB flightB byName l 0):=by
   show _=_
   rw [fromB_zero];unfold flightsB
   rw [decide_eq_true (by omega:l.length≤8),Bool.true_and]
  go_enter Tryz.func77,Tryz.ntmps77
  go_wp2
  go_loopw [10] (fun v wr=>∃ k:Nat,k≤l.length∧v = .int .i64 k∧Hid (fromB flightB byName l k=fromB flightB byName l 0)∧Below w.heap.size w wr) (fun v _=>l.length-(intOf v).toNat)
  case atStart=>exact ⟨0,Nat.zero_le _,rfl,rfl,Below.refl _ _⟩
  case round =>
   obtain ⟨k,hk,rfl,hF,hb⟩:=hrel
   by_cases hlt:k<l.length
   ·obtain ⟨ad,x,A3,c3,rfl,hx,x0,x1,x2,x3,hl3,hr3⟩:=flightAt (Kd.C_below hr hb) k hlt
    have hX:=Lib.hid hx
    clear hx
    have HR:=Lib.hid hr3
    clear hr3 hl3
    have hs:(wr.alloc (.cells #[.string x.f0, .int .i64 x.f1, .int .i64 x.f2, .slice A3 x.f3.length c3] 45)).heap.size=wr.heap.size+1:=by simp
    have qf:∀ u:After (wr.alloc (.cells #[.string x.f0, .int .i64 x.f1, .int .i64 x.f2, .slice A3 x.f3.length c3] 45)),Calls Tryz.prog 106 #[.agg #[.string x.f0, .int .i64 x.f1, .int .i64 x.f2, .slice A3 x.f3.length c3]] u.w fun e w'=>e = .returned (.bool (flightB x))∧Below u.w.heap.size u.w w' :=
     fun u=>impl_flightOk_any _ _ x _ (Kd.C_below (Kd.C_below HR.out ((Below.refl _ _).alloc (Nat.le_refl _) _)) u.hb) (C_len HR.out)
    have QF:=Lib.hid qf
    have b0:=After.cell (W:=wr.alloc (.cells #[.string x.f0, .int .i64 x.f1, .int .i64 x.f2, .slice A3 x.f3.length c3] 45)) (a:=⟨wr.heap.size,0,none⟩) (v := .string x.f0) (by simp)
    have b1:=After.cell (W:=wr.alloc (.cells #[.string x.f0, .int .i64 x.f1, .int .i64 x.f2, .slice A3 x.f3.length c3] 45)) (a:=⟨wr.heap.size,1,none⟩) (v := .int .i64 x.f1) (by simp)
    have b2:=After.cell (W:=wr.alloc (.cells #[.string x.f0, .int .i64 x.f1, .int .i64 x.f2, .slice A3 x.f3.length c3] 45)) (a:=⟨wr.heap.size,2,none⟩) (v := .int .i64 x.f2) (by simp)
    have b3:=After.cell (W:=wr.alloc (.cells #[.string x.f0, .int .i64 x.f1, .int .i64 x.f2, .slice A3 x.f3.length c3] 45)) (a:=⟨wr.heap.size,3,none⟩) (v := .slice A3 x.f3.length c3) (by simp)
    clear qf hs
    cases hn:flightB x with
    | false =>
     go_wp2
     refine wp_region_after (by kernel_rfl) (by kernel_rfl) ?_
     repeat (go_big_quiet_step (first | (go_at_call 106;exact calls_after (QF.out _))))
     refine wpQuiet_nil ?_
     intro _ hw'
     obtain ⟨u,hw''⟩:=hw'
     subst hw''
     go_wp2
     go_ret
     exact ⟨ret_bool (by rw [hB.out,← hF.out,fromB_bad _ _ _ _ _ hX.out hn]),below_next (hb.alloc hb.size _) (by have:=hb.size;simp;omega) u.hb⟩
    | true =>
    by_cases hk0:k=0
    ·have j1:decide (0<k)=false:=decide_eq_false (by omega)
     have K0:=Lib.hid hk0
     clear hk0
     go_wp2
     refine wp_region_after (by kernel_rfl) (by kernel_rfl) ?_
     repeat (go_big_quiet_step (first | (go_at_call 106;exact calls_after (QF.out _))))
     refine wpQuiet_nil ?_
     intro _ hw'
     obtain ⟨u,hw''⟩:=hw'
     subst hw''
     go_wp2
     go_roundw
     case rel=>exact ⟨k+1,by omega,by go_num,by show _=_;rw [← hF.out,fromB_good0 _ _ _ _ _ K0.out hX.out hn],below_next (hb.alloc hb.size _) (by have:=hb.size;simp;omega) u.hb⟩
     case measure=>simp [intOf];omega
    ·obtain ⟨k,rfl⟩:∃ j,k=j+1:=⟨k-1,by omega⟩
     clear hk0
     obtain ⟨ad2,p,A4,c4,e2,hp,p0,p1,p2,p3,pl,pr⟩:=flightAt (Kd.C_below hr hb) k (by omega)
     obtain rfl:ad=ad2:=by injection e2
     have HP:=Lib.hid hp
     have p0:=After.cell (cell_al p0 (.cells #[.string x.f0, .int .i64 x.f1, .int .i64 x.f2, .slice A3 x.f3.length c3] 45))
     clear hp e2 p1 p2 p3 pl pr
     have j1:decide (0<(k:Int)+1)=true:=decide_eq_true (by omega)
     have j2:(k:Int)<l.length:=by omega
     have j3:IntKind.i64.wrap (k:Int)=k:=IntWalk.i64_in _ (by omega)
     cases hle:byName p x with
     | false =>
      have hl:Op.bytesLess p.f0.toList x.f0.toList=false:=hle
      go_wp2
      refine wp_region_after (by kernel_rfl) (by kernel_rfl) ?_
      repeat (go_big_quiet_step (first | (go_at_call 106;exact calls_after (QF.out _))))
      refine wpQuiet_nil ?_
      intro _ hw'
      obtain ⟨u,hw''⟩:=hw'
      subst hw''
      go_wp2
      go_ret
      exact ⟨ret_bool (by rw [hB.out,← hF.out,fromB_bad2 _ _ _ _ _ _ HP.out hX.out hle]),below_next (hb.alloc hb.size _) (by have:=hb.size;simp;omega) u.hb⟩
     | true =>
      have hl:Op.bytesLess p.f0.toList x.f0.toList=true:=hle
      go_wp2
      refine wp_region_after (by kernel_rfl) (by kernel_rfl) ?_
      repeat (go_big_quiet_step (first | (go_at_call 106;exact calls_after (QF.out _))))
      refine wpQuiet_nil ?_
      intro _ hw'
      obtain ⟨u,hw''⟩:=hw'
      subst hw''
      go_wp2
      go_roundw
      case rel=>exact ⟨k+1+1,by omega,by go_num,by show _=_;rw [← hF.out,fromB_good _ _ _ _ _ _ HP.out hX.out hn hle],below_next (hb.alloc hb.size _) (by have:=hb.size;simp;omega) u.hb⟩
      case measure=>simp [intOf];omega
   ·go_wp2
    go_ret
    obtain rfl:k=l.length:=by omega
    exact ⟨ret_bool (by rw [hB.out,← hF.out,fromB_end _ _ _ _ (Nat.le_refl _)]),hb⟩
theorem quiet_name (s:ByteArray) (W:World):Calls Tryz.prog 89 #[.string s] W fun e w'=>e = .returned (.bool (nameB s))∧w'=W:=(spec_name_any _ W).mono fun _ _ h=>⟨h.1,h.2.symm⟩
theorem quiet_in (a b c:Int) (W:World):Calls Tryz.prog 45 #[.int .i64 a, .int .i64 b, .int .i64 c] W fun e w'=>e = .returned (.bool (inB a b c))∧w'=W:=(spec_in_any _ _ _ W).mono fun _ _ h=>⟨h.1,h.2.symm⟩
set_option maxHeartbeats 2000000 in
theorem spec_capsOk_any (A:Option Addr) (c:Nat) (l:List Cap) (w:World) (hr:Kd.C k80 w A l.length l) (hc:l.length≤9223372036854775807) :
  Calls Tryz.prog 54 #[.slice A l.length c] w fun e w'=>e = .returned (.bool (capsB l))∧Below w.heap.size w w':=by
 by_cases hn:6<l.length
 ·have h1:decide ((6:Int)<l.length)=true:=by simp;omega
  have h2:decide (6<l.length)=true:=by simp;omega
  go_enter Tryz.func54,Tryz.ntmps54
  go_wp2
  go_ret
  exact ⟨ret_bool (by simp [capsB];omega),Below.refl _ _⟩
 ·have h1:decide ((6:Int)<l.length)=false:=by simp;omega
  have h2:decide (6<l.length)=false:=by simp;omega
  have hB:Hid (capsB l=fromB capB bySector l 0):=by
   show _=_
   rw [fromB_zero];unfold capsB
   rw [decide_eq_true (by omega:l.length≤6),Bool.true_and]
  go_enter Tryz.func54,Tryz.ntmps54
  go_wp2
  go_loopw [3] (fun v wr=>∃ k:Nat,k≤l.length∧v = .int .i64 k∧Hid (fromB capB bySector l k=fromB capB bySector l 0)∧Below w.heap.size w wr) (fun v _=>l.length-(intOf v).toNat)
  case atStart=>exact ⟨0,Nat.zero_le _,rfl,rfl,Below.refl _ _⟩
  case round =>
   obtain ⟨k,hk,rfl,hF,hb⟩:=hrel
   by_cases hlt:k<l.length
   ·obtain ⟨ad,x,rfl,hx,x0,x1⟩:=capAt (Kd.C_below hr hb) k hlt
    have hX:=Lib.hid hx
    clear hx
    have QN:=Lib.hid (quiet_name x.f0)
    have QI:=Lib.hid (quiet_in x.f1 0 20)
    have j4:(k:Int)<l.length:=by omega
    cases hn:nameB x.f0 with
    | false =>
     go_wp2
     go_quiet (first | (go_at_call 89;exact Calls.quiet_of_same (QN.out _)) | (go_at_call 45;exact Calls.quiet_of_same (QI.out _)))
     go_wp2
     go_ret
     exact ⟨ret_bool (by rw [hB.out,← hF.out,fromB_bad _ _ _ _ _ hX.out (by simp [capB,hn])]),pw_below_drewN hb _⟩
    | true =>
    by_cases hk0:k=0
    ·have j1:decide (0<k)=false:=decide_eq_false (by omega)
     have K0:=Lib.hid hk0
     clear hk0
     cases hi:inB x.f1 0 20 with
     | false =>
      go_wp2
      go_quiet (first | (go_at_call 89;exact Calls.quiet_of_same (QN.out _)) | (go_at_call 45;exact Calls.quiet_of_same (QI.out _)))
      go_wp2
      go_ret
      exact ⟨ret_bool (by rw [hB.out,← hF.out,fromB_bad _ _ _ _ _ hX.out (by simp [capB,hn,hi])]),pw_below_drewN hb _⟩
     | true =>
      go_wp2
      go_quiet (first | (go_at_call 89;exact Calls.quiet_of_same (QN.out _)) | (go_at_call 45;exact Calls.quiet_of_same (QI.out _)))
      go_wp2
      go_roundw
      case rel=>exact ⟨k+1,by omega,by go_num,by show _=_;rw [← hF.out,fromB_good0 _ _ _ _ _ K0.out hX.out (by simp [capB,hn,hi])],pw_below_drewN hb _⟩
      case measure=>simp [intOf];omega
    ·obtain ⟨k,rfl⟩:∃ j,k=j+1:=⟨k-1,by omega⟩
     clear hk0
     obtain ⟨ad2,p,e2,hp,p0,p1⟩:=capAt (Kd.C_below hr hb) k (by omega)
     obtain rfl:ad=ad2:=by injection e2
     have HP:=Lib.hid hp
     clear hp e2 p1
     have j1:decide (0<(k:Int)+1)=true:=decide_eq_true (by omega)
     have j2:(k:Int)<l.length:=by omega
     have j3:IntKind.i64.wrap (k:Int)=k:=IntWalk.i64_in _ (by omega)
     cases hle:bySector p x with
     | false =>
      have hl:Op.bytesLess p.f0.toList x.f0.toList=false:=hle
      go_wp2
      go_quiet (first | (go_at_call 89;exact Calls.quiet_of_same (QN.out _)) | (go_at_call 45;exact Calls.quiet_of_same (QI.out _)))
      go_wp2
      go_ret
      exact ⟨ret_bool (by rw [hB.out,← hF.out,fromB_bad2 _ _ _ _ _ _ HP.out hX.out hle]),pw_below_drewN hb _⟩
     | true =>
      have hl:Op.bytesLess p.f0.toList x.f0.toList=true:=hle
      cases hi:inB x.f1 0 20 with
      | false =>
       go_wp2
       go_quiet (first | (go_at_call 89;exact Calls.quiet_of_same (QN.out _)) | (go_at_call 45;exact Calls.quiet_of_same (QI.out _)))
       go_wp2
       go_ret
       exact ⟨ret_bool (by rw [hB.out,← hF.out,fromB_bad _ _ _ _ _ hX.out (by simp [capB,hn,hi])]),pw_below_drewN hb _⟩
      | true =>
       go_wp2
       go_quiet (first | (go_at_call 89;exact Calls.quiet_of_same (QN.out _)) | (go_at_call 45;exact Calls.quiet_of_same (QI.out _)))
       go_wp2
       go_roundw
       case rel=>exact ⟨k+1+1,by omega,by go_num,by show _=_;rw [← hF.out,fromB_good _ _ _ _ _ _ HP.out hX.out (by simp [capB,hn,hi]) hle],pw_below_drewN hb _⟩
       case measure=>simp [intOf];omega
   ·go_wp2
    go_ret
    obtain rfl:k=l.length:=by omega
    exact ⟨ret_bool (by rw [hB.out,← hF.out,fromB_end _ _ _ _ (Nat.le_refl _)]),hb⟩
set_option maxHeartbeats 2000000 in
theorem spec_visitsOk_any (A:Option Addr) (c:Nat) (l:List Visit) (w:World) (hr:Kd.C k52 w A l.length l) (hc:l.length≤9223372036854775807) :
  Calls Tryz.prog 90 #[.slice A l.length c] w fun e w'=>e = .returned (.bool (visitsB l))∧Below w.heap.size w w':=by
 cases hl:inB l.length 1 5 with
 | false =>
  go_enter Tryz.func90,Tryz.ntmps90
  go_wp2_with (first | (go_at_call 45;refine (spec_in_any _ _ _ _).mono ?_;rintro e w' ⟨rfl,rfl⟩;rw [hl]))
  go_ret
  exact ⟨ret_bool (by simp [visitsB,hl]),Below.refl _ _⟩
 | true =>
  have hB:Hid (visitsB l=fromB visitB apartB l 0):=by
   show _=_
   rw [fromB_zero];simp [visitsB,hl]
  go_enter Tryz.func90,Tryz.ntmps90
  go_wp2_with (first | (go_at_call 45;refine (spec_in_any _ _ _ _).mono ?_;rintro e w' ⟨rfl,rfl⟩;rw [hl]))
  clear hl
  go_loopw [3] (fun v wr=>∃ k:Nat,k≤l.length∧v = .int .i64 k∧Hid (fromB visitB apartB l k=fromB visitB apartB l 0)∧Hid (∀ j p,j<k→l[j]? = some p→visitB p=true)∧Below w.heap.size w wr) (fun v _=>l.length-(intOf v).toNat)
  case atStart=>exact ⟨0,Nat.zero_le _,rfl,rfl,fun j p h=>absurd h (Nat.not_lt_zero _),Below.refl _ _⟩
  case round =>
   obtain ⟨k,hk,rfl,hF,hV,hb⟩:=hrel
   by_cases hlt:k<l.length
   ·obtain ⟨ad,x,rfl,hx,x0,x1,x2⟩:=visitAt (Kd.C_below hr hb) k hlt
    have hX:=Lib.hid hx
    clear hx
    have QN:=Lib.hid (quiet_name x.f0)
    have QI:=Lib.hid quiet_in
    cases hn:nameB x.f0 with
    | false =>
     go_wp2
     go_quiet (first | (go_at_call 89;exact Calls.quiet_of_same (QN.out _)) | (go_at_call 45;exact Calls.quiet_of_same (QI.out _ _ _ _)))
     go_wp2
     go_ret
     exact ⟨ret_bool (by rw [hB.out,← hF.out,fromB_bad _ _ _ _ _ hX.out (by simp [visitB,hn])]),pw_below_drewN (hb.alloc hb.size _) _⟩
    | true =>
    cases hi:inB x.f1 0 200 with
    | false =>
     go_wp2
     go_quiet (first | (go_at_call 89;exact Calls.quiet_of_same (QN.out _)) | (go_at_call 45;exact Calls.quiet_of_same (QI.out _ _ _ _)))
     go_wp2
     go_ret
     exact ⟨ret_bool (by rw [hB.out,← hF.out,fromB_bad _ _ _ _ _ hX.out (by simp [visitB,hn,hi])]),pw_below_drewN (hb.alloc hb.size _) _⟩
    | true =>
    cases hj:inB x.f2 1 30 with
    | false =>
     go_wp2
     go_quiet (first | (go_at_call 89;exact Calls.quiet_of_same (QN.out _)) | (go_at_call 45;exact Calls.quiet_of_same (QI.out _ _ _ _)))
     go_wp2
     go_ret
     exact ⟨ret_bool (by rw [hB.out,← hF.out,fromB_bad _ _ _ _ _ hX.out (by simp [visitB,hn,hi,hj])]),pw_below_drewN (hb.alloc hb.size _) _⟩
    | true =>
    have hok:visitB x=true:=by simp [visitB,hn,hi,hj]
    have hV':Hid (∀ j p,j<k+1→l[j]? = some p→visitB p=true):=fun j p h1 h2=>by
     rcases Nat.lt_or_ge j k with h3 | h3
     ·exact hV.out j p h3 h2
     ·obtain rfl:j=k:=by omega
      rw [hX.out] at h2
      injection h2 with h2
      rw [← h2];exact hok
    have HOK:=Lib.hid hok
    clear hok
    by_cases hk0:k=0
    ·have j1:decide (0<k)=false:=decide_eq_false (by omega)
     have K0:=Lib.hid hk0
     clear hk0
     go_wp2
     go_quiet (first | (go_at_call 89;exact Calls.quiet_of_same (QN.out _)) | (go_at_call 45;exact Calls.quiet_of_same (QI.out _ _ _ _)))
     go_wp2
     go_roundw
     case rel=>exact ⟨k+1,by omega,by go_num,by show _=_;rw [← hF.out,fromB_good0 _ _ _ _ _ K0.out hX.out HOK.out],hV',pw_below_drewN (hb.alloc hb.size _) _⟩
     case measure=>simp [intOf];omega
    ·obtain ⟨k,rfl⟩:∃ j,k=j+1:=⟨k-1,by omega⟩
     clear hk0
     obtain ⟨ad2,p,e2,hp,p0,p1,p2⟩:=visitAt (Kd.C_below hr hb) k (by omega)
     obtain rfl:ad=ad2:=by injection e2
     have pb:=visitB_parts (hV.out k p (by omega) hp)
     obtain ⟨_,pb1,pb2,pb3,pb4⟩:=pb
     have HP:=Lib.hid hp
     have p1:=cell_al p1
     have p2:=cell_al p2
     clear hp e2 p0
     have j1:decide (0<(k:Int)+1)=true:=decide_eq_true (by omega)
     have j2:(k:Int)<l.length:=by omega
     have j3:IntKind.i64.wrap (k:Int)=k:=IntWalk.i64_in _ (by omega)
     have j4:IntKind.i64.wrap (p.f1+p.f2)=p.f1+p.f2:=IntWalk.i64_in _ (by omega)
     clear pb1 pb2 pb3 pb4
     cases hle:apartB p x with
     | false =>
      have hl:decide (x.f1<p.f1+p.f2)=true:=by simp only [apartB,decide_eq_false_iff_not] at hle;exact decide_eq_true (by omega)
      go_wp2
      go_quiet (first | (go_at_call 89;exact Calls.quiet_of_same (QN.out _)) | (go_at_call 45;exact Calls.quiet_of_same (QI.out _ _ _ _)))
      go_wp2
      go_ret
      exact ⟨ret_bool (by rw [hB.out,← hF.out,fromB_bad2 _ _ _ _ _ _ HP.out hX.out hle]),pw_below_drewN (hb.alloc hb.size _) _⟩
     | true =>
      have hl:decide (x.f1<p.f1+p.f2)=false:=by simp only [apartB,decide_eq_true_eq] at hle;exact decide_eq_false (by omega)
      go_wp2
      go_quiet (first | (go_at_call 89;exact Calls.quiet_of_same (QN.out _)) | (go_at_call 45;exact Calls.quiet_of_same (QI.out _ _ _ _)))
      go_wp2
      go_roundw
      case rel=>exact ⟨k+1+1,by omega,by go_num,by show _=_;rw [← hF.out,fromB_good _ _ _ _ _ _ HP.out hX.out HOK.out hle],hV',pw_below_drewN (hb.alloc hb.size _) _⟩
      case measure=>simp [intOf];omega
   ·go_wp2
    go_ret
    obtain rfl:k=l.length:=by omega
    exact ⟨ret_bool (by rw [hB.out,← hF.out,fromB_end _ _ _ _ (Nat.le_refl _)]),hb⟩
set_option maxHeartbeats 4000000 in
theorem spec_flightsOk_any (A:Option Addr) (c:Nat) (l:List Flight) (w:World) (hr:Kd.C k45 w A l.length l) (hc:l.length≤9223372036854775807) :
  Calls Tryz.prog 47 #[.slice A l.length c] w fun e w'=>e = .returned (.bool (flightsB l))∧Below w.heap.size w w':=by
 by_cases hn:8<l.length
 ·have h1:decide ((8:Int)<l.length)=true:=by simp;omega
  have h2:decide (8<l.length)=true:=by simp;omega
  go_enter Tryz.func47,Tryz.ntmps47
  go_wp2
  go_ret
  exact ⟨ret_bool (by simp [flightsB];omega),Below.refl _ _⟩
 ·have h1:decide ((8:Int)<l.length)=false:=by simp;omega
  have h2:decide (8<l.length)=false:=by simp;omega
  have hB:Hid (flightsB l=fromB flightB byName l 0):=by
   show _=_
   rw [fromB_zero];unfold flightsB
   rw [decide_eq_true (by omega:l.length≤8),Bool.true_and]
  go_enter Tryz.func47,Tryz.ntmps47
  go_wp2
  go_loopw [3] (fun v wr=>∃ k:Nat,k≤l.length∧v = .int .i64 k∧Hid (fromB flightB byName l k=fromB flightB byName l 0)∧Below w.heap.size w wr) (fun v _=>l.length-(intOf v).toNat)
  case atStart=>exact ⟨0,Nat.zero_le _,rfl,rfl,Below.refl _ _⟩
  case round =>
   obtain ⟨k,hk,rfl,hF,hb⟩:=hrel
   by_cases hlt:k<l.length
   ·obtain ⟨ad,x,A3,c3,rfl,hx,x0,x1,x2,x3,hl3,hr3⟩:=flightAt (Kd.C_below hr hb) k hlt
    have hX:=Lib.hid hx
    clear hx
    have HR:=Lib.hid hr3
    clear hr3 hl3
    have qf:∀ u:After (wr.alloc (.cells #[.string x.f0, .int .i64 x.f1, .int .i64 x.f2, .slice A3 x.f3.length c3] 45)),Calls Tryz.prog 90 #[.slice A3 x.f3.length c3] u.w fun e w'=>e = .returned (.bool (visitsB x.f3))∧Below u.w.heap.size u.w w' :=
     fun u=>spec_visitsOk_any _ _ x.f3 _ (Kd.C_below (Kd.C_below HR.out ((Below.refl _ _).alloc (Nat.le_refl _) _)) u.hb) (C_len HR.out)
    have QF:=Lib.hid qf
    have QN:=Lib.hid (quiet_name x.f0)
    have QI:=Lib.hid quiet_in
    have b0:=After.cell (W:=wr.alloc (.cells #[.string x.f0, .int .i64 x.f1, .int .i64 x.f2, .slice A3 x.f3.length c3] 45)) (a:=⟨wr.heap.size,0,none⟩) (v := .string x.f0) (by simp)
    have b1:=After.cell (W:=wr.alloc (.cells #[.string x.f0, .int .i64 x.f1, .int .i64 x.f2, .slice A3 x.f3.length c3] 45)) (a:=⟨wr.heap.size,1,none⟩) (v := .int .i64 x.f1) (by simp)
    have b2:=After.cell (W:=wr.alloc (.cells #[.string x.f0, .int .i64 x.f1, .int .i64 x.f2, .slice A3 x.f3.length c3] 45)) (a:=⟨wr.heap.size,2,none⟩) (v := .int .i64 x.f2) (by simp)
    have b3:=After.cell (W:=wr.alloc (.cells #[.string x.f0, .int .i64 x.f1, .int .i64 x.f2, .slice A3 x.f3.length c3] 45)) (a:=⟨wr.heap.size,3,none⟩) (v := .slice A3 x.f3.length c3) (by simp)
    clear qf
    cases hn:nameB x.f0 with
    | false =>
     go_wp2
     refine wp_region_after (by kernel_rfl) (by kernel_rfl) ?_
     repeat (go_big_quiet_step (first | (go_at_call 89;exact calls_after_same (QN.out _)) | (go_at_call 45;exact calls_after_same (QI.out _ _ _ _)) | (go_at_call 90;exact calls_after (QF.out _))))
     refine wpQuiet_nil ?_
     intro _ hw'
     obtain ⟨u,hw''⟩:=hw'
     subst hw''
     go_wp2
     go_ret
     exact ⟨ret_bool (by rw [hB.out,← hF.out,fromB_bad _ _ _ _ _ hX.out (by simp [flightB,hn])]),below_next (hb.alloc hb.size _) (by have:=hb.size;simp;omega) u.hb⟩
    | true =>
    by_cases hk0:k=0
    ·have j1:decide (0<k)=false:=decide_eq_false (by omega)
     have K0:=Lib.hid hk0
     clear hk0
     cases hi:inB x.f1 0 10000 with
     | false =>
      go_wp2
      refine wp_region_after (by kernel_rfl) (by kernel_rfl) ?_
      repeat (go_big_quiet_step (first | (go_at_call 89;exact calls_after_same (QN.out _)) | (go_at_call 45;exact calls_after_same (QI.out _ _ _ _)) | (go_at_call 90;exact calls_after (QF.out _))))
      refine wpQuiet_nil ?_
      intro _ hw'
      obtain ⟨u,hw''⟩:=hw'
      subst hw''
      go_wp2
      go_ret
      exact ⟨ret_bool (by rw [hB.out,← hF.out,fromB_bad _ _ _ _ _ hX.out (by simp [flightB,hn,hi])]),below_next (hb.alloc hb.size _) (by have:=hb.size;simp;omega) u.hb⟩
     | true =>
     cases hj:inB x.f2 0 60 with
     | false =>
      go_wp2
      refine wp_region_after (by kernel_rfl) (by kernel_rfl) ?_
      repeat (go_big_quiet_step (first | (go_at_call 89;exact calls_after_same (QN.out _)) | (go_at_call 45;exact calls_after_same (QI.out _ _ _ _)) | (go_at_call 90;exact calls_after (QF.out _))))
      refine wpQuiet_nil ?_
      intro _ hw'
      obtain ⟨u,hw''⟩:=hw'
      subst hw''
      go_wp2
      go_ret
      exact ⟨ret_bool (by rw [hB.out,← hF.out,fromB_bad _ _ _ _ _ hX.out (by simp [flightB,hn,hi,hj])]),below_next (hb.alloc hb.size _) (by have:=hb.size;simp;omega) u.hb⟩
     | true =>
     cases hv:visitsB x.f3 with
     | false =>
      go_wp2
      refine wp_region_after (by kernel_rfl) (by kernel_rfl) ?_
      repeat (go_big_quiet_step (first | (go_at_call 89;exact calls_after_same (QN.out _)) | (go_at_call 45;exact calls_after_same (QI.out _ _ _ _)) | (go_at_call 90;exact calls_after (QF.out _))))
      refine wpQuiet_nil ?_
      intro _ hw'
      obtain ⟨u,hw''⟩:=hw'
      subst hw''
      go_wp2
      go_ret
      exact ⟨ret_bool (by rw [hB.out,← hF.out,fromB_bad _ _ _ _ _ hX.out (by simp [flightB,hn,hi,hj,hv])]),below_next (hb.alloc hb.size _) (by have:=hb.size;simp;omega) u.hb⟩
     | true =>
      go_wp2
      refine wp_region_after (by kernel_rfl) (by kernel_rfl) ?_
      repeat (go_big_quiet_step (first | (go_at_call 89;exact calls_after_same (QN.out _)) | (go_at_call 45;exact calls_after_same (QI.out _ _ _ _)) | (go_at_call 90;exact calls_after (QF.out _))))
      refine wpQuiet_nil ?_
      intro _ hw'
      obtain ⟨u,hw''⟩:=hw'
      subst hw''
      go_wp2
      go_roundw
      case rel=>exact ⟨k+1,by omega,by go_num,by show _=_;rw [← hF.out,fromB_good0 _ _ _ _ _ K0.out hX.out (by simp [flightB,hn,hi,hj,hv])],below_next (hb.alloc hb.size _) (by have:=hb.size;simp;omega) u.hb⟩
      case measure=>simp [intOf];omega
    ·obtain ⟨k,rfl⟩:∃ j,k=j+1:=⟨k-1,by omega⟩
     clear hk0
     obtain ⟨ad2,p,A4,c4,e2,hp,p0,p1,p2,p3,pl,pr⟩:=flightAt (Kd.C_below hr hb) k (by omega)
     obtain rfl:ad=ad2:=by injection e2
     have HP:=Lib.hid hp
     have p0:=After.cell (cell_al p0 (.cells #[.string x.f0, .int .i64 x.f1, .int .i64 x.f2, .slice A3 x.f3.length c3] 45))
     clear hp e2 p1 p2 p3 pl pr
     have j1:decide (0<(k:Int)+1)=true:=decide_eq_true (by omega)
     have j2:(k:Int)<l.length:=by omega
     have j3:IntKind.i64.wrap (k:Int)=k:=IntWalk.i64_in _ (by omega)
     cases hle:byName p x with
     | false =>
      have hl:Op.bytesLess p.f0.toList x.f0.toList=false:=hle
      go_wp2
      refine wp_region_after (by kernel_rfl) (by kernel_rfl) ?_
      repeat (go_big_quiet_step (first | (go_at_call 89;exact calls_after_same (QN.out _)) | (go_at_call 45;exact calls_after_same (QI.out _ _ _ _)) | (go_at_call 90;exact calls_after (QF.out _))))
      refine wpQuiet_nil ?_
      intro _ hw'
      obtain ⟨u,hw''⟩:=hw'
      subst hw''
      go_wp2
      go_ret
      exact ⟨ret_bool (by rw [hB.out,← hF.out,fromB_bad2 _ _ _ _ _ _ HP.out hX.out hle]),below_next (hb.alloc hb.size _) (by have:=hb.size;simp;omega) u.hb⟩
     | true =>
      have hl:Op.bytesLess p.f0.toList x.f0.toList=true:=hle
      cases hi:inB x.f1 0 10000 with
      | false =>
       go_wp2
       refine wp_region_after (by kernel_rfl) (by kernel_rfl) ?_
       repeat (go_big_quiet_step (first | (go_at_call 89;exact calls_after_same (QN.out _)) | (go_at_call 45;exact calls_after_same (QI.out _ _ _ _)) | (go_at_call 90;exact calls_after (QF.out _))))
       refine wpQuiet_nil ?_
       intro _ hw'
       obtain ⟨u,hw''⟩:=hw'
       subst hw''
       go_wp2
       go_ret
       exact ⟨ret_bool (by rw [hB.out,← hF.out,fromB_bad _ _ _ _ _ hX.out (by simp [flightB,hn,hi])]),below_next (hb.alloc hb.size _) (by have:=hb.size;simp;omega) u.hb⟩
      | true =>
      cases hj:inB x.f2 0 60 with
      | false =>
       go_wp2
       refine wp_region_after (by kernel_rfl) (by kernel_rfl) ?_
       repeat (go_big_quiet_step (first | (go_at_call 89;exact calls_after_same (QN.out _)) | (go_at_call 45;exact calls_after_same (QI.out _ _ _ _)) | (go_at_call 90;exact calls_after (QF.out _))))
       refine wpQuiet_nil ?_
       intro _ hw'
       obtain ⟨u,hw''⟩:=hw'
       subst hw''
       go_wp2
       go_ret
       exact ⟨ret_bool (by rw [hB.out,← hF.out,fromB_bad _ _ _ _ _ hX.out (by simp [flightB,hn,hi,hj])]),below_next (hb.alloc hb.size _) (by have:=hb.size;simp;omega) u.hb⟩
      | true =>
      cases hv:visitsB x.f3 with
      | false =>
       go_wp2
       refine wp_region_after (by kernel_rfl) (by kernel_rfl) ?_
       repeat (go_big_quiet_step (first | (go_at_call 89;exact calls_after_same (QN.out _)) | (go_at_call 45;exact calls_after_same (QI.out _ _ _ _)) | (go_at_call 90;exact calls_after (QF.out _))))
       refine wpQuiet_nil ?_
       intro _ hw'
       obtain ⟨u,hw''⟩:=hw'
       subst hw''
       go_wp2
       go_ret
       exact ⟨ret_bool (by rw [hB.out,← hF.out,fromB_bad _ _ _ _ _ hX.out (by simp [flightB,hn,hi,hj,hv])]),below_next (hb.alloc hb.size _) (by have:=hb.size;simp;omega) u.hb⟩
      | true =>
       go_wp2
       refine wp_region_after (by kernel_rfl) (by kernel_rfl) ?_
       repeat (go_big_quiet_step (first | (go_at_call 89;exact calls_after_same (QN.out _)) | (go_at_call 45;exact calls_after_same (QI.out _ _ _ _)) | (go_at_call 90;exact calls_after (QF.out _))))
       refine wpQuiet_nil ?_
       intro _ hw'
       obtain ⟨u,hw''⟩:=hw'
       subst hw''
       go_wp2
       go_roundw
       case rel=>exact ⟨k+1+1,by omega,by go_num,by show _=_;rw [← hF.out,fromB_good _ _ _ _ _ _ HP.out hX.out (by simp [flightB,hn,hi,hj,hv]) hle],below_next (hb.alloc hb.size _) (by have:=hb.size;simp;omega) u.hb⟩
       case measure=>simp [intOf];omega
   ·go_wp2
    go_ret
    obtain rfl:k=l.length:=by omega
    exact ⟨ret_bool (by rw [hB.out,← hF.out,fromB_end _ _ _ _ (Nat.le_refl _)]),hb⟩
theorem intAt {w:World} {A:Option Addr} {xs:List Int} (h:Kd.C (Kd.int .i64) w A xs.length xs) (k:Nat) (hk:k<xs.length) :
  ∃ ad x,A=some ad∧xs[k]? = some x∧w.cell? (ad.add k)=some (.int .i64 x):=by
 obtain ⟨ad,c,e,_,hK,hc⟩:=Kd.C_get h 0 (k:Int) (by omega) (by omega)
 have h0:=hc 0 (.int .i64 (xs.getD (k:Int).toNat 0)) (by rw [show c=[Value.int .i64 (xs.getD (k:Int).toNat 0)] from hK];rfl)
 refine ⟨ad,xs[k],e,List.getElem?_eq_getElem hk,?_⟩
 have er:xs.getD (k:Int).toNat 0=xs[k]:=by rw [Int.toNat_natCast,List.getD_eq_getElem?_getD,List.getElem?_eq_getElem hk];rfl
 rw [er] at h0
 have ea:(k:Int).toNat*(Kd.int .i64).sz+0=k:=by show (k:Int).toNat*1+0=k;omega
 rw [ea] at h0
 exact h0
def slotsFrom (l:List Int) (k:Nat):Bool:=(l.drop k).all fun s=>inB s (-1) 10060
theorem slotsFrom_end (l:List Int) (k:Nat) (h:l.length≤k):slotsFrom l k=true:=by unfold slotsFrom;rw [List.drop_of_length_le h];rfl
theorem slotsFrom_step (l:List Int) (k:Nat) (x:Int) (h:l[k]? = some x):slotsFrom l k=(inB x (-1) 10060 && slotsFrom l (k+1)):=by
 have hk:k<l.length:=by
  rcases Nat.lt_or_ge k l.length with h1 | h1
  ·exact h1
  ·rw [List.getElem?_eq_none h1] at h;cases h
 unfold slotsFrom
 rw [List.drop_eq_getElem_cons hk,List.all_cons]
 rw [List.getElem?_eq_getElem hk] at h
 rw [Option.some.inj h]
set_option maxHeartbeats 2000000 in
theorem impl_slotsOk_any (A:Option Addr) (c:Nat) (l:List Flight) (A1:Option Addr) (c1:Nat) (s:List Int) (w:World) (hr:Kd.C k45 w A l.length l) (hr1:Kd.C (Kd.int .i64) w A1 s.length s) :
  Calls Tryz.prog 81 #[.slice A l.length c, .slice A1 s.length c1] w fun e w'=>e = .returned (.bool (slotsB l s))∧Below w.heap.size w w':=by
 have hc1:=C_len hr1
 have hc0:=C_len hr
 have QF:=Lib.hid (fun W hr=>impl_flightsOk_any A c l W hr (C_len hr))
 cases hf:flightsB l with
 | false =>
  go_enter Tryz.func81,Tryz.ntmps81
  go_wp2_with (first | (go_at_call 77;refine (QF.out _ hr).mono ?_;rintro e w1 ⟨rfl,hb⟩))
  go_ret
  exact ⟨ret_bool (by simp [slotsB,hf]),hb⟩
 | true =>
 by_cases he:s.length=l.length
 ·have hB:Hid (slotsB l s=slotsFrom s 0):=by show _=_;simp [slotsB,hf,he,slotsFrom]
  have HE:=Lib.hid he
  have e1:(s.length != l.length)=false:=by simp [he]
  have e2:((s.length:Int) != (l.length:Int))=false:=by simp [he]
  have e3:(s.length == l.length)=true:=by simp [he]
  clear he
  go_enter Tryz.func81,Tryz.ntmps81
  go_wp2_with (first | (go_at_call 77;refine (QF.out _ hr).mono ?_;rintro e w1 ⟨rfl,hb1⟩))
  go_loopw [19] (fun v wr=>∃ k:Nat,k≤s.length∧v = .int .i64 k∧Hid (slotsFrom s k=slotsFrom s 0)∧Below w.heap.size w wr) (fun v _=>s.length-(intOf v).toNat)
  case atStart=>exact ⟨0,Nat.zero_le _,rfl,rfl,hb1⟩
  case round =>
   obtain ⟨k,hk,rfl,hF,hb⟩:=hrel
   by_cases hlt:k<s.length
   ·obtain ⟨ad,x,rfl,hx,x0⟩:=intAt (Kd.C_below hr1 hb) k hlt
    have hX:=Lib.hid (slotsFrom_step _ _ _ hx)
    clear hx
    cases hi:inB x (-1) 10060 with
    | false =>
     go_wp2_with (first | (go_at_call 65;refine (impl_in_any _ _ _ _).mono ?_;rintro e w' ⟨rfl,rfl⟩;rw [hi]))
     go_ret
     exact ⟨ret_bool (by rw [hB.out,← hF.out,hX.out,hi];rfl),hb⟩
    | true =>
     go_wp2_with (first | (go_at_call 65;refine (impl_in_any _ _ _ _).mono ?_;rintro e w' ⟨rfl,rfl⟩;rw [hi]))
     go_roundw
     case rel=>exact ⟨k+1,by omega,by go_num,by show _=_;rw [← hF.out,hX.out,hi];rfl,hb⟩
     case measure=>simp [intOf];omega
   ·go_wp2
    go_ret
    obtain rfl:k=s.length:=by omega
    exact ⟨ret_bool (by rw [hB.out,← hF.out,slotsFrom_end _ _ (Nat.le_refl _)]),hb⟩
 ·have e1:(s.length != l.length)=true:=by simpa using he
  have e2:((s.length:Int) != (l.length:Int))=true:=by simp;omega
  have e3:(s.length == l.length)=false:=by simpa using he
  go_enter Tryz.func81,Tryz.ntmps81
  go_wp2_with (first | (go_at_call 77;refine (QF.out _ hr).mono ?_;rintro e w1 ⟨rfl,hb⟩))
  go_ret
  exact ⟨ret_bool (by simp [slotsB,he]),hb⟩
set_option maxHeartbeats 2000000 in
theorem spec_slotsOk_any (A:Option Addr) (c:Nat) (l:List Flight) (A1:Option Addr) (c1:Nat) (s:List Int) (w:World) (hr:Kd.C k45 w A l.length l) (hr1:Kd.C (Kd.int .i64) w A1 s.length s) :
  Calls Tryz.prog 57 #[.slice A l.length c, .slice A1 s.length c1] w fun e w'=>e = .returned (.bool (slotsB l s))∧Below w.heap.size w w':=by
 have hc1:=C_len hr1
 have hc0:=C_len hr
 have QF:=Lib.hid (fun W hr=>spec_flightsOk_any A c l W hr (C_len hr))
 cases hf:flightsB l with
 | false =>
  go_enter Tryz.func57,Tryz.ntmps57
  go_wp2_with (first | (go_at_call 47;refine (QF.out _ hr).mono ?_;rintro e w1 ⟨rfl,hb⟩))
  go_ret
  exact ⟨ret_bool (by simp [slotsB,hf]),hb⟩
 | true =>
 by_cases he:s.length=l.length
 ·have hB:Hid (slotsB l s=slotsFrom s 0):=by show _=_;simp [slotsB,hf,he,slotsFrom]
  have HE:=Lib.hid he
  have e1:(s.length != l.length)=false:=by simp [he]
  have e2:((s.length:Int) != (l.length:Int))=false:=by simp [he]
  have e3:(s.length == l.length)=true:=by simp [he]
  clear he
  go_enter Tryz.func57,Tryz.ntmps57
  go_wp2_with (first | (go_at_call 47;refine (QF.out _ hr).mono ?_;rintro e w1 ⟨rfl,hb1⟩))
  go_loopw [5] (fun v wr=>∃ k:Nat,k≤s.length∧v = .int .i64 k∧Hid (slotsFrom s k=slotsFrom s 0)∧Below w.heap.size w wr) (fun v _=>s.length-(intOf v).toNat)
  case atStart=>exact ⟨0,Nat.zero_le _,rfl,rfl,hb1⟩
  case round =>
   obtain ⟨k,hk,rfl,hF,hb⟩:=hrel
   by_cases hlt:k<s.length
   ·obtain ⟨ad,x,rfl,hx,x0⟩:=intAt (Kd.C_below hr1 hb) k hlt
    have j4:(k:Int)<s.length:=by omega
    have hX:=Lib.hid (slotsFrom_step _ _ _ hx)
    clear hx
    cases hi:inB x (-1) 10060 with
    | false =>
     go_wp2_with (first | (go_at_call 45;refine (spec_in_any _ _ _ _).mono ?_;rintro e w' ⟨rfl,rfl⟩;rw [hi]))
     go_ret
     exact ⟨ret_bool (by rw [hB.out,← hF.out,hX.out,hi];rfl),hb⟩
    | true =>
     go_wp2_with (first | (go_at_call 45;refine (spec_in_any _ _ _ _).mono ?_;rintro e w' ⟨rfl,rfl⟩;rw [hi]))
     go_roundw
     case rel=>exact ⟨k+1,by omega,by go_num,by show _=_;rw [← hF.out,hX.out,hi];rfl,hb⟩
     case measure=>simp [intOf];omega
   ·go_wp2
    go_ret
    obtain rfl:k=s.length:=by omega
    exact ⟨ret_bool (by rw [hB.out,← hF.out,slotsFrom_end _ _ (Nat.le_refl _)]),hb⟩
 ·have e1:(s.length != l.length)=true:=by simpa using he
  have e2:((s.length:Int) != (l.length:Int))=true:=by simp;omega
  have e3:(s.length == l.length)=false:=by simpa using he
  go_enter Tryz.func57,Tryz.ntmps57
  go_wp2_with (first | (go_at_call 47;refine (QF.out _ hr).mono ?_;rintro e w1 ⟨rfl,hb⟩))
  go_ret
  exact ⟨ret_bool (by simp [slotsB,he]),hb⟩
theorem ret_int {a b:Int} (h:a=b):Ending.returned (.int .i64 a) = .returned (.int .i64 b):=by rw [h]
theorem delay_same {l:List Flight} {s:List Int} (h:slotsB l s=true):delayN l s=delayTo l s s.length:=by unfold delayN;rw [if_pos h,(slotsB_parts h).2.1]
set_option maxHeartbeats 2000000 in
theorem impl_delay_any (A:Option Addr) (c:Nat) (l:List Flight) (A1:Option Addr) (c1:Nat) (s:List Int) (w:World) (hr:Kd.C k45 w A l.length l) (hr1:Kd.C (Kd.int .i64) w A1 s.length s) :
  Calls Tryz.prog 75 #[.slice A l.length c, .slice A1 s.length c1] w fun e w'=>e = .returned (.int .i64 (delayN l s))∧Below w.heap.size w w':=by
 have hc1:=C_len hr1
 have QS:=Lib.hid (impl_slotsOk_any A c l A1 c1 s w hr hr1)
 cases hs:slotsB l s with
 | false =>
  go_enter Tryz.func75,Tryz.ntmps75
  go_wp2_with (first | (go_at_call 81;refine QS.out.mono ?_;rintro e w1 ⟨rfl,hb⟩))
  go_ret
  exact ⟨ret_int (by simp [delayN,hs]),hb⟩
 | true =>
  have hlen:s.length=l.length:=(slotsB_parts hs).2.1
  have hl8:l.length≤8:=(flightsB_parts (slotsB_parts hs).1).1
  have HL:=Lib.hid hlen
  have hl8':s.length≤8:=by omega
  clear hlen
  go_enter Tryz.func75,Tryz.ntmps75
  go_wp2_with (first | (go_at_call 81;refine QS.out.mono ?_;rintro e w1 ⟨rfl,hb⟩))
  have HS:=Lib.hid hs
  clear hs
  go_loopw [5,14] (fun n v wr=>∃ (k:Nat) (m:Int),k≤s.length∧v = .int .i64 k∧n = .int .i64 m ∧ -(10000*k)≤m∧m≤10060*k∧Hid (m=delayTo l s k)∧Below w.heap.size w wr) (fun _ v _=>s.length-(intOf v).toNat)
  case atStart=>exact ⟨0,0,Nat.zero_le _,rfl,rfl,by omega,by omega,rfl,hb⟩
  case round =>
   obtain ⟨k,m,hk,rfl,rfl,m1,m2,hF,hb⟩:=hrel
   by_cases hlt:k<s.length
   ·obtain ⟨ad,x,rfl,hx,x0⟩:=intAt (Kd.C_below hr1 hb) k hlt
    obtain ⟨ad2,f,A3,c3,rfl,hf,f0,f1,f2,f3,_,_⟩:=flightAt (Kd.C_below hr hb) k (by rw [← HL.out];exact hlt)
    have hX:=Lib.hid (delayTo_step hf hx)
    obtain ⟨b1,b2,b3,b4⟩:=slotsB_at HS.out hf hx
    have j5:(k:Int)<l.length:=by rw [← HL.out];omega
    clear hx hf f0 f2 f3
    by_cases hi:x = -1
    ·have e1:(x != -1)=false:=by simp [hi]
     have HI:=Lib.hid hi
     clear hi
     go_wp2
     go_roundw
     case rel=>exact ⟨k+1,m,by omega,by go_num,rfl,by omega,by omega,by show _=_;rw [hX.out,← hF.out,HI.out];simp [delayOf],hb⟩
     case measure=>simp [intOf];omega
    ·have e1:(x != -1)=true:=by simp [hi]
     have hx0:0≤x:=by omega
     clear hi
     go_wp2
     go_roundw
     case rel=>exact ⟨k+1,m+(x-f.f1),by omega,by go_num,by go_num,by omega,by omega,by show _=_;rw [hX.out,← hF.out,delayOf,if_pos hx0],hb⟩
     case measure=>simp [intOf];omega
   ·go_wp2
    go_ret
    obtain rfl:k=s.length:=by omega
    exact ⟨ret_int (by rw [delay_same HS.out,hF.out]),hb⟩
set_option maxHeartbeats 2000000 in
theorem spec_delay_any (A:Option Addr) (c:Nat) (l:List Flight) (A1:Option Addr) (c1:Nat) (s:List Int) (w:World) (hr:Kd.C k45 w A l.length l) (hr1:Kd.C (Kd.int .i64) w A1 s.length s) :
  Calls Tryz.prog 52 #[.slice A l.length c, .slice A1 s.length c1] w fun e w'=>e = .returned (.int .i64 (delayN l s))∧Below w.heap.size w w':=by
 have hc1:=C_len hr1
 have QS:=Lib.hid (spec_slotsOk_any A c l A1 c1 s w hr hr1)
 cases hs:slotsB l s with
 | false =>
  go_enter Tryz.func52,Tryz.ntmps52
  go_wp2_with (first | (go_at_call 57;refine QS.out.mono ?_;rintro e w1 ⟨rfl,hb⟩))
  go_ret
  exact ⟨ret_int (by simp [delayN,hs]),hb⟩
 | true =>
  have hlen:s.length=l.length:=(slotsB_parts hs).2.1
  have hl8:l.length≤8:=(flightsB_parts (slotsB_parts hs).1).1
  have HL:=Lib.hid hlen
  clear hlen
  go_enter Tryz.func52,Tryz.ntmps52
  go_wp2_with (first | (go_at_call 57;refine QS.out.mono ?_;rintro e w1 ⟨rfl,hb⟩))
  have HS:=Lib.hid hs
  clear hs
  go_loopw [5,6] (fun n v wr=>∃ (k:Nat) (m:Int),k≤l.length∧v = .int .i64 k∧n = .int .i64 m ∧ -(10000*k)≤m∧m≤10060*k∧Hid (m=delayTo l s k)∧Below w.heap.size w wr) (fun _ v _=>l.length-(intOf v).toNat)
  case atStart=>exact ⟨0,0,Nat.zero_le _,rfl,rfl,by omega,by omega,rfl,hb⟩
  case round =>
   obtain ⟨k,m,hk,rfl,rfl,m1,m2,hF,hb⟩:=hrel
   by_cases hlt:k<l.length
   ·obtain ⟨ad,x,rfl,hx,x0⟩:=intAt (Kd.C_below hr1 hb) k (by rw [HL.out];exact hlt)
    obtain ⟨ad2,f,A3,c3,rfl,hf,f0,f1,f2,f3,_,_⟩:=flightAt (Kd.C_below hr hb) k hlt
    have hX:=Lib.hid (delayTo_step hf hx)
    obtain ⟨b1,b2,b3,b4⟩:=slotsB_at HS.out hf hx
    have j4:(k:Int)<l.length:=by omega
    have j5:(k:Int)<s.length:=by rw [HL.out];omega
    clear hx hf f0 f2 f3
    by_cases hi:0≤x
    ·have e1:decide (0≤x)=true:=decide_eq_true hi
     have j6:IntKind.i64.wrap (m+x)=m+x:=IntWalk.i64_in _ (by omega)
     have j7:IntKind.i64.wrap (m+x-f.f1)=m+x-f.f1:=IntWalk.i64_in _ (by omega)
     go_wp2
     go_quiet (fail)
     go_wp2
     go_roundw
     case rel=>exact ⟨k+1,m+x-f.f1,by omega,by go_num,rfl,by omega,by omega,by show _=_;rw [hX.out,← hF.out,delayOf,if_pos hi];omega,pw_below_drewN hb _⟩
     case measure=>simp [intOf];omega
    ·have e1:decide (0≤x)=false:=decide_eq_false hi
     go_wp2
     go_roundw
     case rel=>exact ⟨k+1,m,by omega,by go_num,rfl,by omega,by omega,by show _=_;rw [hX.out,← hF.out,delayOf,if_neg hi];omega,hb⟩
     case measure=>simp [intOf];omega
   ·go_wp2
    go_ret
    obtain rfl:k=l.length:=by omega
    exact ⟨ret_int (by rw [delay_same HS.out,HL.out,hF.out]),hb⟩
end Go.Proofs.YthcpbojmalgdbaaGreatDoor.Q
