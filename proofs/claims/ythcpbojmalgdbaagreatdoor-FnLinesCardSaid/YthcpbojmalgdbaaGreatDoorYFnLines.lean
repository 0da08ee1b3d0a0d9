/- Proved: for every input that can be read, where the listed variables hold what the program's text lays, laws.FnLines answers true and its argument reads behind the call as it read before; and the card that ties the list. -/
import Derived.Test.YthcpbojmalgdbaaGreatDoorRows
import Derived.Test.YthcpbojmalgdbaaGreatDoorMlUa
import Derived.WalkKit
import Derived.ProofKit
import Derived.Handed
import Derived.OpenShut
import Derived.ShutString
import Derived.ChangeOld
import Derived.Below
import Derived.SizedLaws
import Derived.Shelf.Vars
import Derived.Lib.LaidTab
import Derived.Lay
import Derived.Stop.LaidErr
import Derived.Test.YthcpbojmalgdbaaGreatDoorMlUd
import Derived.Test.YthcpbojmalgdbaaGreatDoorMlDa
import Derived.Test.YthcpbojmalgdbaaGreatDoorCards
import Derived.Test.YthcpbojmalgdbaaGreatDoorTie
import Derived.Test.YthcpbojmalgdbaaGreatDoorMlS
import Derived.SevenTiedAt
set_option linter.unusedVariables false
set_option linter.unusedSimpArgs false
namespace Go.Proofs.YthcpbojmalgdbaaGreatDoor.Q
open Go.ChangeShapes Go.WideShapes Go.ChangeAt Go.RowKit
theorem handed_laid_shaped {H:Type} {enc:TypeId×Value→H} {a:Assume} {C:Checked} {os:Os} {f:FuncId} {fn:Func} {s:ChangeSpec} {conds:List PathCond} {apart fresh handsOn again:Bool} {X:World→Array Value→Prop}
  (hX:∀ (w w':World) (args:Array Value),w.heap=w'.heap→X w args→X w' args)
  (own:ownKnob C.prog.godebug=none) (started:os.Started) (noInit:C.prog.inits.idxOf? f=none) (hfn:C.prog.funcs[f]? = some fn)
  (witness:∃ (w:World) (tape:Tape) (i:Input),w.os=os∧(w.forCall tape i).Shaped C.prog∧i.vars=[]∧Input.okWide C.prog (w.forCall tape i) .any w.heap.size f i ∧
   ((s.pre enc C.prog fn conds apart (w.forCall tape i).memory i.args∧X (w.forCall tape i).memory i.args)∧sizedMet enc C.prog fn (OpenSpec.ofChange s) apart (w.forCall tape i).memory i.args)∧a.holds C.prog (lone (Frame.enter C.prog f i.args .normal) [] (w.forCall tape i)))
  (contract:∀ (W:World) (base:Nat) (args:Array Value) (ds gs:List (DataW H)) (before:List MemPlace),
   (∀ (j:Nat) t v,fn.params[j]? = some t→args[j]? = some v→Value.okWide C.prog W .any base t v) →
   DataW.Whole enc C.prog fn.params.toList s.vars apart W args.toList ds gs before →
   conds.all (PathCond.test C.prog ⟨fn.params.toList,ds,s.plain.varTypes C.prog,gs⟩)=true →
   (DataW.weightsEach C.prog (fn.params.toList++s.plain.varTypes C.prog) (ds++gs)).all (· ≤ reachBytes)=true→X W args →
   W.ShapedOpen C.prog →
   a.holds C.prog (lone (Frame.enter C.prog f args .normal) [] W) →
   Calls C.prog f args W fun e W'=>∃ v,e = .returned v∧s.post enc C.prog fn apart fresh handsOn again W args v W') :
  ReturnsInHanded a C os f .any (fun w args=>(s.pre enc C.prog fn conds apart w args∧X w args)∧sizedMet enc C.prog fn (OpenSpec.ofChange s) apart w args) (s.post enc C.prog fn apart fresh handsOn again):=by
 refine returnsInHanded_of_calls own started noInit witness ?_
 intro w tape i _ hsh _ hok hpre hholds
 obtain ⟨_,_,_,fn',hfn',_,_,_,_,hval⟩:=hok
 have e:fn'=fn:=Option.some.inj (hfn'.symm.trans hfn)
 subst e
 obtain ⟨⟨⟨ds,gs,before,hw,hc⟩,hx⟩,hz⟩:=hpre
 have hw':=DataW.Whole.of_heap (w':=w.forCall tape i) (by rfl) hw
 refine (contract (w.forCall tape i) w.heap.size i.args ds gs before hval hw' hc (hz.weights hw) (hX _ _ _ (by rfl) hx) hsh hholds).mono fun e W' ⟨v,he,hp⟩ => ?_
 subst he
 exact ChangeSpec.post_blind hp
theorem gPow:Tryz.prog.globalNamed "internal/strconv.uint64pow10" = some 5:=by kernel_rfl
theorem tPow:(Tryz.prog.globals[5]?).map (·.type)=some 196:=by kernel_rfl
theorem cPow:Tryz.prog.cellsOf 196=20:=by kernel_rfl
theorem cU64:Tryz.prog.cellsOf 162=1:=by kernel_rfl
theorem gl_of {x y:String×DataW Unit} {r:List (String×DataW Unit)} {W:World} (hL:laidMet Tryz.prog (x :: y :: ("internal/strconv.uint64pow10",Lib.tabData .u64 Lib.pow10Tab) :: r) W) (hsh:W.ShapedOpen Tryz.prog):Gl W where
 tab:=Lib.tabIs_of_head gPow tPow Tryz.underlying196 Tryz.underlying162 cU64 cPow (laidMet.tail (laidMet.tail hL))
 mx:=cell_of_shapedOpen_int (g:=0) (t:=3) (zero := #[.int .i64 0]) (k := .i64) hsh (of_decide_eq_true (by kernel_rfl)) (by kernel_rfl) rfl (by kernel_rfl) (by kernel_rfl) Tryz.underlying3
end Go.Proofs.YthcpbojmalgdbaaGreatDoor.Q
namespace Go.Proofs.YthcpbojmalgdbaaGreatDoor.Q
open Go.RowKit Go.Proofs.YthcpbojmalgdbaaGreatDoorW.PrintWords Go.Proofs.YthcpbojmalgdbaaGreatDoorW.PrintLast Go.Proofs.YthcpbojmalgdbaaGreatDoorW.PrintMore Go.Proofs.YthcpbojmalgdbaaGreatDoor.Core
set_option maxRecDepth 100000 in
set_option maxHeartbeats 4000000 in
theorem walk_fnlines (A0:Option Addr) (c0:Nat) (l0:List Int) (w:World) (hr0:Kd.C (Kd.int .u8) w A0 l0.length l0) (hc0:l0.length≤c0) (hg0:∀ y∈l0,(fun y:Int=>0≤y∧y≤255) y) (hg:Gl w) :
  Calls Tryz.prog 4 #[.slice A0 l0.length c0] w fun e w'=>e = .returned (.bool true)∧Below w.heap.size w w':=by
 have HG:=Lib.hid hg
 have HR:=Lib.hid hr0
 have HB:=Lib.hid (show bytesL l0 from hg0)
 clear hr0 hg0 hg
 by_cases hs:1048576<l0.length
 ·have e1:decide ((1048576:Int)<l0.length)=true:=by simp;omega
  go_enter Tryz.func4,Tryz.ntmps4
  go_wp2
  go_ret
  exact ⟨rfl,Below.refl _ _⟩
 have e1:decide ((1048576:Int)<l0.length)=false:=by simp;omega
 go_enter Tryz.func4,Tryz.ntmps4
 go_wp2_with (fail)
 refine (drawSession_any A0 c0 l0 _ HR.out hc0 HB.out).mono ?_
 rintro e w1 ⟨t,ht,rfl,hb⟩
 have B1:=Lib.hid hb
 clear hb HR HB
 go_upto_block 0 with (fail)
 go_cut [4,5,6] (fun vk vh vi wx=>∃ (k:Int) (h:ByteArray) (i:Int),vk = .int .i64 k∧vh = .string h∧vi = .int .i64 i∧h.size≤1000000∧w1=wx)
 case first =>
  go_wp2_with (fail)
  go_loopw [4,5,6] (fun vk vh vi wr=>∃ (k:Int) (i:Nat),vk = .int .i64 k∧vh = .string t∧vi = .int .i64 i∧i≤t.size∧w1=wr) (fun _ _ vi _=>t.size-(intOf vi).toNat)
  case atStart=>exact ⟨_,0,rfl,rfl,rfl,Nat.zero_le _,rfl⟩
  case round =>
   obtain ⟨k,i,rfl,rfl,rfl,hi,rfl⟩:=hrel
   by_cases hlt:i<t.size
   ·have j1:(i:Int)<t.size:=by omega
    have jn:IntKind.i64.wrap ((i:Int)+1)=((i+1:Nat):Int):=by rw [show (i:Int)+1=((i+1:Nat):Int) by omega];exact IntWalk.i64_in _ (by omega)
    have HB:=Lib.hid (byte_here hlt)
    have b2:(i:Int)+1≤t.size:=by omega
    have b3:(0:Int)≤(i:Int)+1:=by omega
    by_cases hc:t[i]'hlt=10
    ·have e2:=byte_eq (ci:=10) rfl hc
     clear hc
     by_cases hk:wrap64 (k-1)<0
     ·have e3:decide (wrap64 (k-1)<0)=true:=decide_eq_true hk
      have hz:(t.extract 0 (i+1)).size≤1000000:=by rw [ByteArray.size_extract];omega
      go_wp2
      go_meet
      exact ⟨_,_,_,rfl,rfl,rfl,hz,rfl⟩
     ·have e3:decide (wrap64 (k-1)<0)=false:=decide_eq_false hk
      go_wp2
      go_roundw
      case rel=>exact ⟨_,i+1,rfl,rfl,by go_num,hlt,by trivial⟩
      case measure=>simp [intOf];omega
    ·have e2:=byte_ne (ci:=10) rfl hc
     clear hc
     go_wp2
     go_roundw
     case rel=>exact ⟨_,i+1,rfl,rfl,by go_num,hlt,by trivial⟩
     case measure=>simp [intOf];omega
   ·obtain rfl:i=t.size:=by omega
    go_wp2
    go_meet
    exact ⟨_,_,_,rfl,rfl,rfl,ht,rfl⟩
 case rest =>
  obtain ⟨k,h,i,rfl,rfl,rfl,hh,rfl⟩:=hcut
  obtain ⟨w2,rfl⟩:∃ wo:World,wo=w1:=⟨_,rfl⟩
  go_wp2_with (fail)
  refine (implSession_any h w2 (HG.out.below B1.out) (by omega)).mono ?_
  rintro e w3 ⟨rfl,hb⟩
  have B3:=Lib.hid (below_next B1.out B1.out.size hb)
  clear hb B1
  go_wp2_with (fail)
  refine (implSession_any t w3 (HG.out.below B3.out) (by omega)).mono ?_
  rintro e w4 ⟨rfl,hb⟩
  have B4:=Lib.hid (below_next B3.out B3.out.size hb)
  clear hb B3
  go_wp2_with (fail)
  refine (specSession_any h w4 (by omega)).mono ?_
  rintro e w5 ⟨rfl,hb⟩
  have B5:=Lib.hid (below_next B4.out B4.out.size hb)
  clear hb B4
  go_wp2_with (fail)
  refine (specSession_any t w5 (by omega)).mono ?_
  rintro e w6 ⟨rfl,hb⟩
  have B6:=Lib.hid (below_next B5.out B5.out.size hb)
  clear hb B5
  obtain ⟨a,ha⟩:∃ a,a=sessionB h:=⟨_,rfl⟩
  obtain ⟨b,hb⟩:∃ b,b=sessionB t:=⟨_,rfl⟩
  rw [← ha,← hb]
  clear ha hb
  have ea:(a.toList == a.toList)=true:=beq_self_eq_true _
  have eb:(b.toList == b.toList)=true:=beq_self_eq_true _
  by_cases h1:b.size<a.size
  ·have e2:decide ((b.size:Int)<a.size)=true:=decide_eq_true (by omega)
   have e2':decide ((a.size:Int) > b.size)=true:=decide_eq_true (by omega)
   go_wp2
   go_ret
   exact ⟨rfl,B6.out⟩
  ·have e2:decide ((b.size:Int)<a.size)=false:=decide_eq_false (by omega)
   have e2':decide ((a.size:Int) > b.size)=false:=decide_eq_false (by omega)
   have i1:(a.size:Int)≤b.size:=by omega
   have i0:(0:Int)≤a.size:=by omega
   by_cases h2:(b.extract 0 a.size).toList=a.toList
   ·have e4:((b.extract 0 a.size).toList == a.toList)=true:=by rw [h2];exact beq_self_eq_true _
    clear h2
    go_wp2
    go_ret
    exact ⟨rfl,B6.out⟩
   ·have e3:((b.extract 0 a.size).toList == a.toList)=false:=beq_eq_false_iff_ne.2 h2
    clear h2
    go_wp2
    go_ret
    exact ⟨rfl,B6.out⟩
end Go.Proofs.YthcpbojmalgdbaaGreatDoor.Q
namespace Go.Proofs.YthcpbojmalgdbaaGreatDoor.fnLines
open Go.ChangeShapes Go.WideShapes Go.ChangeAt Go.RowKit
open Go.ChangeMaps (open_string shut_string)
theorem own:ownKnob Tryz.prog.godebug=none:=by kernel_rfl
theorem laidOut:laidOutB Tryz.prog=true:=by kernel_rfl
set_option maxRecDepth 100000 in
theorem lifted (os:Os) (started:os.Started) (H:Type) (enc:TypeId×Value→H) :
  ReturnsInHanded {} Tryz.checked os 4 .any (fun w args=>(Rows.fnLinesSpec.pre enc Tryz.prog Tryz.f4 [] false w args∧laidMetH Tryz.prog Rows.fnLinesRow.laid w)∧sizedMet enc Tryz.prog Tryz.f4 (OpenSpec.ofChange Rows.fnLinesSpec) false w args) (Rows.fnLinesSpec.post enc Tryz.prog Tryz.f4 false true false false):=by
 refine Q.handed_laid_shaped (C:=Tryz.checked) (X:=fun w _=>laidMetH Tryz.prog Rows.fnLinesRow.laid w) (fun _ _ _ hh h=>h.of_heap hh) own started (by kernel_rfl) Tryz.func4
  (ChangeSpec.witness_shaped (enc:=enc) (C:=Tryz.checked) (os:=os) (X:=fun w _=>laidMetH Tryz.prog Rows.fnLinesRow.laid w) false (World.laidAll Tryz.prog os Rows.fnLinesRow.laid) #[.slice none 0 0] 8 (World.laidAll_os _ _ _)
   (World.shaped_of_ZipB (by kernel_rfl) (by kernel_rfl)) (by kernel_rfl) (by kernel_rfl) (by kernel_rfl)
   (by rw [MakeChecks.laidMetH_plain _ _ _ (by kernel_rfl)];exact laidMet_laidAll _ (by kernel_rfl) (by kernel_rfl))) ?_
 intro W base args ds gs before hval0 hW _ hsz0 hL hsh _
 have hsz:(DataW.weightsEach Tryz.prog (Tryz.f4.params.toList++Rows.fnLinesSpec.plain.varTypes Tryz.prog) (ds++gs)).all (· ≤ reachBytes)=true:=hsz0
 have hval:∀ (j:Nat) t v,Tryz.f4.params[j]? = some t→args[j]? = some v→Value.okWide Tryz.prog W .any base t v:=hval0
 have hW':=hW
 obtain ⟨p,q,hA0,hV,rfl,hfz,hnd⟩:=hW
 have hA:DataW.TrodAll enc Tryz.prog W 0 (fun _=>true) true Tryz.f4.params.toList args.toList ds p:=hA0
 rw [Tryz.params4] at hA hval hsz
 obtain ⟨v0,vs0,d0,ds0,p0,q0,hargs,rfl,rfl,h0,r0⟩:=trodAll_cons hA
 obtain ⟨rfl,rfl,rfl⟩:=trodAll_nil r0
 obtain rfl:args = #[v0]:=by cases args;simp_all
 obtain ⟨rfl,rfl⟩:=trodVars_none hV
 have hG:Q.Gl W:=Q.gl_of (by rw [MakeChecks.laidMetH_plain _ _ _ (by kernel_rfl)] at hL;exact hL) hsh
 obtain ⟨a0,len0,cap0,rfl⟩:=okWide_slice Tryz.underlying24 (hval 0 24 v0 rfl rfl)
 have k0:=h0
 have lt0:∀ x∈p0,x.block<W.heap.size:=by obtain ⟨m,hm⟩:=k0;exact DataW.trod_lt m _ _ _ hm
 obtain ⟨l0,rfl,hc0,hr0,hg0⟩:=Q.arg_bytes h0
 clear hA0 hval0 hsz0 hsz
 refine (Q.walk_fnlines a0 cap0 l0 W hr0 hc0 hg0 hG).mono fun e W' ⟨he,bel⟩ => ?_
 subst he
 exact ⟨_,rfl,_,_,_,[],_,[],hW',trodAll_mk1 (shut_bool Tryz.underlying4 _),(trodAll_cons_mk (Below.trod laidOut (by kernel_rfl) (of_decide_eq_true (by kernel_rfl)) k0 bel lt0) trodAll_mk0),rfl,bel.frame _,fun h=>by cases h⟩
theorem over:Rows.fnLinesRow.holds Tryz.pinned (OpenSpec.ofChange Rows.fnLinesSpec) :=
 OpenClaim.holds_of_wide 4 Tryz.f4 rfl rfl rfl rfl rfl rfl rfl ⟨rfl,rfl,rfl,rfl,rfl⟩ rfl rfl rfl rfl rfl (by kernel_rfl) Tryz.func4 (by kernel_rfl)
  (of_decide_eq_true (by kernel_rfl)) (by unfold Func.isWrapper;first | (rw [if_pos (by decide +kernel)];kernel_rfl) | (rw [if_neg (by decide +kernel)];exact ⟨rfl,rfl⟩))
  (fun os started H enc _=>lifted os started H enc)
theorem proved:Rows.FnLinesCardSaid :=
 Claim7.holds_tied_plain_at .later [] [.data, .data, .data, .data, .sentinel, .sentinel, .pinned] true (true, "2cbafd4be78026ee0735cdcda50029190180006e5af0a1692705fd80788c9876") true
  over (fun _ h=>by cases h) (by kernel_rfl) (fun _ h=>by cases h) fnLines_row_tie rfl ⟨rfl,rfl⟩ (by kernel_rfl) rfl
  (fun f fn hf hfn=>by
   obtain rfl:f=4:=Option.some.inj ((show Tryz.prog.funcNamed "loop.example/lapflow/laws.FnLines" = some 4 by kernel_rfl).symm.trans hf) |>.symm
   obtain rfl:fn=Tryz.f4:=(Option.some.inj (Tryz.func4.symm.trans hfn)).symm
   exact ⟨by kernel_rfl,fun j t ht=>by
    rw [Tryz.params4] at ht
    have hm:t∈[24]:=by simpa using Array.mem_of_getElem? ht
    have hall:([24].all fun u => !Tryz.prog.wantsStandIn u)=true:=by kernel_rfl
    exact (show Tryz.prog.wantsStandIn t=false by simpa using List.all_eq_true.1 hall t hm)⟩)
  (by kernel_rfl)
#print axioms proved
end Go.Proofs.YthcpbojmalgdbaaGreatDoor.fnLines
