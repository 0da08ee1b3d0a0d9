/- Merged out of this seat's own texts. -/
import Derived.Test.YthcpbojmalgdbaaGreatDoorMlI
import Derived.Test.YthcpbojmalgdbaaGreatDoorMlDp
import Derived.Test.YthcpbojmalgdbaaGreatDoorMlQ
import Derived.Laws.Externs
import Derived.Test.YthcpbojmalgdbaaGreatDoorMlSr
set_option linter.unusedVariables false
set_option linter.unusedSimpArgs false
namespace Go.Proofs.YthcpbojmalgdbaaGreatDoor.Q
open Go.RowKit Go.Proofs.YthcpbojmalgdbaaGreatDoorW.PrintWords Go.Proofs.YthcpbojmalgdbaaGreatDoorW.PrintLast Go.Proofs.YthcpbojmalgdbaaGreatDoorW.PrintMore Go.Proofs.YthcpbojmalgdbaaGreatDoor.Core
set_option maxRecDepth 100000 in
set_option maxHeartbeats 4000000 in
theorem insert_flights_grow (g c i:Nat) (cur:Array Value) (cs:List Value) (W:World) (hc:W.heap[g]? = some (.cells cur 45 (0,0))) (hs:cur.size=c*4) (hi:i<c) (hn:c≤1000) (hcl:cs.length=4) (h1:∀ u∈cs,u.oneCell'=true) (h1c:∀ u∈cur.toList.take (c*4),u.oneCell'=true) :
  Calls Tryz.prog 107 #[.slice (some ⟨g,0,none⟩) c c, .int .i64 i, .slice (some ⟨W.heap.size,0,none⟩) 1 1] (W.alloc (.cells cs.toArray 45)) fun e w'=>∃ (G:Nat) (cur':Array Value),e = .returned (.slice (some ⟨W.heap.size+1,0,none⟩) (c+1) G)∧w'.heap[W.heap.size+1]? = some (.cells cur' 45 (0,0))∧cur'.size=G*4∧c+1≤G∧G≤maxLen ∧
   cur'.toList.take ((c+1)*4)=cur.toList.take (i*4)++cs++(cur.toList.take (c*4)).drop (i*4)∧Below W.heap.size W w':=by
 obtain ⟨i0,hi0,heq⟩:=Option.map_eq_some_iff.1 infoFlight
 simp only [Prod.mk.injEq] at heq
 obtain ⟨hz,hsz,hby⟩:=heq
 obtain ⟨G,W1,W2,W3,cur',hap,hcp1,hcp2,hr3,hrs,hG1,hG2,htk,hB3⟩:=ins_grow Tryz.prog 30 3 45 i0 (.agg #[.string ByteArray.empty, .int .i64 0, .int .i64 0, .slice none 0 0]) 4 56 Tryz.underlying30 Tryz.underlying3 hi0 hz hsz hby rfl (by decide) (by decide) g c i cur cs W hc hs hi hn hcl h1 h1c
 obtain ⟨w0,hw0⟩:∃ w0,w0=W.alloc (.cells cs.toArray 45):=⟨_,rfl⟩
 rw [← hw0] at hap ⊢
 have H3:=Lib.hid hr3
 have HT:=Lib.hid htk
 have HB:=Lib.hid hB3
 have HRS:=Lib.hid hrs
 have HG2:=Lib.hid hG2
 have j1:(i:Int)≤(c:Int):=by omega
 have j2:(i:Int)<(c:Int):=by omega
 have j3:((i:Int) == (c:Int))=false:=by simp;omega
 have j4:IntKind.i64.wrap ((c:Int)+1)=(c:Int)+1:=IntWalk.i64_in _ (by omega)
 have j5:decide ((c:Int)+1 > (c:Int))=true:=decide_eq_true (by omega)
 have j6:IntKind.i64.wrap ((c:Int)+1-(i:Int))=((c+1-i:Nat):Int):=by rw [IntWalk.i64_in _ (by omega)];omega
 have j7:(i:Int)≤(c:Int)+1:=by omega
 have j8:(i:Int)+1≤(c:Int)+1:=by omega
 have j9:IntKind.i64.wrap ((i:Int)+1)=(i:Int)+1:=IntWalk.i64_in _ (by omega)
 have j10:(0:Int)≤(i:Int)+1:=by omega
 have k1:¬ G=i:=by omega
 have k2:¬ G=i+1:=by omega
 have k3:¬ c=i:=by omega
 have k4:(c:Int)+1≤(G:Int):=by omega
 clear hr3 htk hB3 hrs hG2 hc hs h1 h1c hi0 hz hsz hby hw0 hcl
 go_enter Tryz.func107,Tryz.ntmps107
 go_upto_region 11 with (first
  | (at_builtin;refine Go.Lib.wpList_append_run _ rfl _ _ _ _ rfl _ _ rfl rfl _ _ (hap _) ?_)
  | (at_builtin;refine copy_list rfl _ _ 30 30 rfl _ _ rfl rfl (hcp1 _) ?_))
 go_region_held3 (fun _=>True) (trivial) (first
  | (refine copy_step rfl _ _ 30 30 rfl _ _ (by rfl) (by rfl) (hcp2 _) ?_))
 all_goals
  go_wp2
  go_ret
  exact ⟨G,cur',rfl,H3.out,HRS.out,hG1,HG2.out,HT.out,HB.out⟩
set_option maxRecDepth 100000 in
set_option maxHeartbeats 4000000 in
theorem insert_ints_grow (g c i:Nat) (cur:Array Value) (cs:List Value) (W:World) (hc:W.heap[g]? = some (.cells cur 3 (0,0))) (hs:cur.size=c*1) (hi:i<c) (hn:c≤1000) (hcl:cs.length=1) (h1:∀ u∈cs,u.oneCell'=true) (h1c:∀ u∈cur.toList.take (c*1),u.oneCell'=true) :
  Calls Tryz.prog 108 #[.slice (some ⟨g,0,none⟩) c c, .int .i64 i, .slice (some ⟨W.heap.size,0,none⟩) 1 1] (W.alloc (.cells cs.toArray 3)) fun e w'=>∃ (G:Nat) (cur':Array Value),e = .returned (.slice (some ⟨W.heap.size+1,0,none⟩) (c+1) G)∧w'.heap[W.heap.size+1]? = some (.cells cur' 3 (0,0))∧cur'.size=G*1∧c+1≤G∧G≤maxLen ∧
   cur'.toList.take ((c+1)*1)=cur.toList.take (i*1)++cs++(cur.toList.take (c*1)).drop (i*1)∧Below W.heap.size W w':=by
 obtain ⟨i0,hi0,heq⟩:=Option.map_eq_some_iff.1 infoInt
 simp only [Prod.mk.injEq] at heq
 obtain ⟨hz,hsz,hby⟩:=heq
 obtain ⟨G,W1,W2,W3,cur',hap,hcp1,hcp2,hr3,hrs,hG1,hG2,htk,hB3⟩:=ins_grow Tryz.prog 31 3 3 i0 (.int .i64 0) 1 8 Tryz.underlying31 Tryz.underlying3 hi0 hz hsz hby rfl (by decide) (by decide) g c i cur cs W hc hs hi hn hcl h1 h1c
 simp only [Nat.mul_one] at hap hcp1 hcp2
 obtain ⟨w0,hw0⟩:∃ w0,w0=W.alloc (.cells cs.toArray 3):=⟨_,rfl⟩
 rw [← hw0] at hap ⊢
 have H3:=Lib.hid hr3
 have HT:=Lib.hid htk
 have HB:=Lib.hid hB3
 have HRS:=Lib.hid hrs
 have HG2:=Lib.hid hG2
 have j1:(i:Int)≤(c:Int):=by omega
 have j2:(i:Int)<(c:Int):=by omega
 have j3:((i:Int) == (c:Int))=false:=by simp;omega
 have j4:IntKind.i64.wrap ((c:Int)+1)=(c:Int)+1:=IntWalk.i64_in _ (by omega)
 have j5:decide ((c:Int)+1 > (c:Int))=true:=decide_eq_true (by omega)
 have j6:IntKind.i64.wrap ((c:Int)+1-(i:Int))=((c+1-i:Nat):Int):=by rw [IntWalk.i64_in _ (by omega)];omega
 have j7:(i:Int)≤(c:Int)+1:=by omega
 have j8:(i:Int)+1≤(c:Int)+1:=by omega
 have j9:IntKind.i64.wrap ((i:Int)+1)=(i:Int)+1:=IntWalk.i64_in _ (by omega)
 have j10:(0:Int)≤(i:Int)+1:=by omega
 have k1:¬ G=i:=by omega
 have k2:¬ G=i+1:=by omega
 have k3:¬ c=i:=by omega
 have k4:(c:Int)+1≤(G:Int):=by omega
 clear hr3 htk hB3 hrs hG2 hc hs h1 h1c hi0 hz hsz hby hw0 hcl
 go_enter Tryz.func108,Tryz.ntmps108
 go_upto_region 11 with (first
  | (at_builtin;refine Go.Lib.wpList_append_run _ rfl _ _ _ _ rfl _ _ rfl rfl _ _ (hap _) ?_)
  | (at_builtin;refine copy_list rfl _ _ 31 31 rfl _ _ rfl rfl (hcp1 _) ?_))
 go_region_held3 (fun _=>True) (trivial) (first
  | (refine copy_step rfl _ _ 31 31 rfl _ _ (by rfl) (by rfl) (hcp2 _) ?_))
 all_goals
  go_wp2
  go_ret
  exact ⟨G,cur',rfl,H3.out,HRS.out,hG1,HG2.out,HT.out,HB.out⟩
set_option maxRecDepth 100000 in
set_option maxHeartbeats 4000000 in
theorem insert_flights_room (g n c i:Nat) (cur:Array Value) (cs:List Value) (W:World) (hc:W.heap[g]? = some (.cells cur 45 (0,0))) (hs:cur.size=c*4) (hi:i<n) (hroom:n+1≤c) (hcm:c≤9223372036854775807) (hn:n≤1000) (hcl:cs.length=4) (h1:∀ u∈cs,u.oneCell'=true) (h1c:∀ u∈cur.toList.take (n*4),u.oneCell'=true) :
  Calls Tryz.prog 107 #[.slice (some ⟨g,0,none⟩) n c, .int .i64 i, .slice (some ⟨W.heap.size,0,none⟩) 1 1] (W.alloc (.cells cs.toArray 45)) fun e w'=>∃ cur':Array Value,e = .returned (.slice (some ⟨g,0,none⟩) (n+1) c)∧w'.heap[g]? = some (.cells cur' 45 (0,0))∧cur'.size=c*4 ∧
   cur'.toList.take ((n+1)*4)=cur.toList.take (i*4)++cs++(cur.toList.take (n*4)).drop (i*4)∧(W.alloc (.cells cs.toArray 45)).grownBy w' (some g):=by
 obtain ⟨i0,hi0,heq⟩:=Option.map_eq_some_iff.1 infoFlight
 simp only [Prod.mk.injEq] at heq
 obtain ⟨hz,hsz,hby⟩:=heq
 have hinfo:(Tryz.prog.info? 45).map (·.size)=some 4:=by rw [hi0];simp [hsz]
 obtain ⟨W1,W2,cur',hcp1,hcp2,hr3,hrs,htk,hg3⟩:=ins_room Tryz.prog 30 45 4 Tryz.underlying30 hinfo g n c i cur cs W hc hs hi hroom hcl h1 h1c
 have hgW:g<W.heap.size:=blk_lt hc
 have hv0:(W.alloc (.cells cs.toArray 45)).heap[W.heap.size]? = some (.cells cs.toArray 45 (0,0)):=blk_new _ _
 have hc0:(W.alloc (.cells cs.toArray 45)).heap[g]? = some (.cells cur 45 (0,0)):=blk_alloc hc _
 obtain ⟨w0,hw0⟩:∃ w0,w0=W.alloc (.cells cs.toArray 45):=⟨_,rfl⟩
 rw [← hw0] at hcp1 hg3 hv0 hc0 ⊢
 have hov:∀ lb cb,(callFunc 131 #[.slice (some ⟨W.heap.size,0,none⟩) 1 1, .slice (some ⟨g,(i+1)*4,none⟩) lb cb]).run Tryz.prog w0 = .ok (.value (.bool false)) w0:=fun lb cb=>by
  rw [run_callFunc_extern Tryz.func131 (by kernel_rfl) (by kernel_rfl) (by kernel_rfl) (e:=Extern.SlicesOverlaps.overlaps #[30,30] #[4]) (by kernel_rfl),
   Go.Lib.run_overlaps_apart (P:=Tryz.prog) w0 30 4 45 Tryz.underlying30 4 (fun w=>by simp [Go.sizeOf,typeInfo,hi0,hsz]) ⟨W.heap.size,0,none⟩ ⟨g,(i+1)*4,none⟩ 1 1 lb cb (by simp;omega) 45 45 4 cur.size (by simp [World.shape?,hv0,hcl]) (by simp [World.shape?,hc0]) (by rw [hs];have:0<c*4:=Nat.mul_pos (by omega) (by omega);omega) (blk_frozen hv0 0) (blk_frozen hv0 4)]
  rfl
 have H3:=Lib.hid hr3
 have HT:=Lib.hid htk
 have HRS:=Lib.hid hrs
 have HG:=Lib.hid hg3
 have j1:(i:Int)≤(n:Int):=by omega
 have j2:(i:Int)<(n:Int):=by omega
 have j3:((i:Int) == (n:Int))=false:=by simp;omega
 have j4:IntKind.i64.wrap ((n:Int)+1)=(n:Int)+1:=IntWalk.i64_in _ (by omega)
 have j5:decide ((n:Int)+1 > (c:Int))=false:=decide_eq_false (by omega)
 have j5b:decide ((c:Int)<(n:Int)+1)=false:=decide_eq_false (by omega)
 have j6:(n:Int)+1≤(c:Int):=by omega
 have j7:(i:Int)≤(n:Int)+1:=by omega
 have j8:(i:Int)+1≤(n:Int)+1:=by omega
 have j9:IntKind.i64.wrap ((i:Int)+1)=(i:Int)+1:=IntWalk.i64_in _ (by omega)
 have j10:(0:Int)≤(i:Int)+1:=by omega
 have j11:(0:Int)≤(n:Int)+1:=by omega
 have j12:(n:Int)≤(c:Int):=by omega
 have k2:¬ c=i+1:=by omega
 have k3:¬ c=i:=by omega
 clear hr3 htk hrs hg3 hc hs h1 h1c hi0 hz hsz hby hw0 hcl hv0 hc0 hinfo
 go_enter Tryz.func107,Tryz.ntmps107
 go_upto_region 15 with (simp only [hov])
 go_region_held3 (fun _=>True) (trivial) (first
  | (refine copy_step rfl _ _ 30 30 rfl _ _ (by rfl) (by rfl) (hcp1 _) ?_))
 all_goals
  go_wp2_with (at_builtin;refine copy_list rfl _ _ 30 30 rfl _ _ rfl rfl (hcp2 _) ?_)
  go_ret
  exact ⟨cur',rfl,H3.out,HRS.out,HT.out,HG.out⟩
set_option maxRecDepth 100000 in
set_option maxHeartbeats 4000000 in
theorem insert_ints_room (g n c i:Nat) (cur:Array Value) (cs:List Value) (W:World) (hc:W.heap[g]? = some (.cells cur 3 (0,0))) (hs:cur.size=c*1) (hi:i<n) (hroom:n+1≤c) (hcm:c≤9223372036854775807) (hn:n≤1000) (hcl:cs.length=1) (h1:∀ u∈cs,u.oneCell'=true) (h1c:∀ u∈cur.toList.take (n*1),u.oneCell'=true) :
  Calls Tryz.prog 108 #[.slice (some ⟨g,0,none⟩) n c, .int .i64 i, .slice (some ⟨W.heap.size,0,none⟩) 1 1] (W.alloc (.cells cs.toArray 3)) fun e w'=>∃ cur':Array Value,e = .returned (.slice (some ⟨g,0,none⟩) (n+1) c)∧w'.heap[g]? = some (.cells cur' 3 (0,0))∧cur'.size=c*1 ∧
   cur'.toList.take ((n+1)*1)=cur.toList.take (i*1)++cs++(cur.toList.take (n*1)).drop (i*1)∧(W.alloc (.cells cs.toArray 3)).grownBy w' (some g):=by
 obtain ⟨i0,hi0,heq⟩:=Option.map_eq_some_iff.1 infoInt
 simp only [Prod.mk.injEq] at heq
 obtain ⟨hz,hsz,hby⟩:=heq
 have hinfo:(Tryz.prog.info? 3).map (·.size)=some 1:=by rw [hi0];simp [hsz]
 obtain ⟨W1,W2,cur',hcp1,hcp2,hr3,hrs,htk,hg3⟩:=ins_room Tryz.prog 31 3 1 Tryz.underlying31 hinfo g n c i cur cs W hc hs hi hroom hcl h1 h1c
 simp only [Nat.mul_one] at hcp1 hcp2
 have hgW:g<W.heap.size:=blk_lt hc
 have hv0:(W.alloc (.cells cs.toArray 3)).heap[W.heap.size]? = some (.cells cs.toArray 3 (0,0)):=blk_new _ _
 have hc0:(W.alloc (.cells cs.toArray 3)).heap[g]? = some (.cells cur 3 (0,0)):=blk_alloc hc _
 obtain ⟨w0,hw0⟩:∃ w0,w0=W.alloc (.cells cs.toArray 3):=⟨_,rfl⟩
 rw [← hw0] at hcp1 hg3 hv0 hc0 ⊢
 have hov:∀ lb cb,(callFunc 133 #[.slice (some ⟨W.heap.size,0,none⟩) 1 1, .slice (some ⟨g,i+1,none⟩) lb cb]).run Tryz.prog w0 = .ok (.value (.bool false)) w0:=fun lb cb=>by
  rw [run_callFunc_extern Tryz.func133 (by kernel_rfl) (by kernel_rfl) (by kernel_rfl) (e:=Extern.SlicesOverlaps.overlaps #[31,31] #[4]) (by kernel_rfl),
   Go.Lib.run_overlaps_apart (P:=Tryz.prog) w0 31 4 3 Tryz.underlying31 1 (fun w=>by simp [Go.sizeOf,typeInfo,hi0,hsz]) ⟨W.heap.size,0,none⟩ ⟨g,i+1,none⟩ 1 1 lb cb (by simp;omega) 3 3 1 cur.size (by simp [World.shape?,hv0,hcl]) (by simp [World.shape?,hc0]) (by rw [hs];have:0<c*1:=Nat.mul_pos (by omega) (by omega);omega) (blk_frozen hv0 0) (blk_frozen hv0 1)]
  rfl
 have H3:=Lib.hid hr3
 have HT:=Lib.hid htk
 have HRS:=Lib.hid hrs
 have HG:=Lib.hid hg3
 have j1:(i:Int)≤(n:Int):=by omega
 have j2:(i:Int)<(n:Int):=by omega
 have j3:((i:Int) == (n:Int))=false:=by simp;omega
 have j4:IntKind.i64.wrap ((n:Int)+1)=(n:Int)+1:=IntWalk.i64_in _ (by omega)
 have j5:decide ((n:Int)+1 > (c:Int))=false:=decide_eq_false (by omega)
 have j5b:decide ((c:Int)<(n:Int)+1)=false:=decide_eq_false (by omega)
 have j6:(n:Int)+1≤(c:Int):=by omega
 have j7:(i:Int)≤(n:Int)+1:=by omega
 have j8:(i:Int)+1≤(n:Int)+1:=by omega
 have j9:IntKind.i64.wrap ((i:Int)+1)=(i:Int)+1:=IntWalk.i64_in _ (by omega)
 have j10:(0:Int)≤(i:Int)+1:=by omega
 have j11:(0:Int)≤(n:Int)+1:=by omega
 have j12:(n:Int)≤(c:Int):=by omega
 have k2:¬ c=i+1:=by omega
 have k3:¬ c=i:=by omega
 clear hr3 htk hrs hg3 hc hs h1 h1c hi0 hz hsz hby hw0 hcl hv0 hc0 hinfo
 go_enter Tryz.func108,Tryz.ntmps108
 go_upto_region 15 with (simp only [hov])
 go_region_held3 (fun _=>True) (trivial) (first
  | (refine copy_step rfl _ _ 31 31 rfl _ _ (by rfl) (by rfl) (hcp1 _) ?_))
 all_goals
  go_wp2_with (at_builtin;refine copy_list rfl _ _ 31 31 rfl _ _ rfl rfl (hcp2 _) ?_)
  go_ret
  exact ⟨cur',rfl,H3.out,HRS.out,HT.out,HG.out⟩
set_option maxRecDepth 100000 in
set_option maxHeartbeats 4000000 in
theorem insert_flights_end (A:Option Addr) (n c:Nat) (xs:List Flight) (p:Flight) (cs:List Value) (base:Nat) (okp:Nat→Prop) (W:World) (hS:Kd.S k45 45 W base (fun k=>True∧¬ okp k) (.slice A n c) xs) (hp:k45.M W base okp p cs) (hokp:∀ k,okp k→True∧some k≠(Value.slice A n c).ownBlock) (hn:n≤1000) (hbase:base≤W.heap.size) :
  Calls Tryz.prog 107 #[.slice A n c, .int .i64 n, .slice (some ⟨W.heap.size,0,none⟩) 1 1] (W.alloc (.cells cs.toArray 45)) fun e w'=>∃ v,e = .returned v∧Kd.S k45 45 w' base (fun _=>True) v (xs++[p])∧Below base W w'∧W.grownBy w' (Value.slice A n c).ownBlock:=by
 obtain ⟨hnx,hnc,hC⟩:=Kd.S_reads' hS
 have hcm:=C_len hC
 have j1:(n:Int)≤(c:Int):=by omega
 have HS:=Lib.hid hS
 have HP:=Lib.hid hp
 have HX:=Lib.hid hnx
 clear hS hp hC hnx
 by_cases hcn:n=c
 ·subst hcn
  go_enter Tryz.func107,Tryz.ntmps107
  go_wp2_with (first
   | (at_builtin;refine Kd.S_append k45 (w0:=W) base rfl (.tmp 23) (.tmp 24) 30 45 (.agg #[.string ByteArray.empty, .int .i64 0, .int .i64 0, .slice none 0 0]) 56 rfl Tryz.underlying30 infoFlight rfl (by decide) (by decide) (.slice A n n) xs p cs (fun _=>True) okp rfl rfl HP.out hokp (fun _ _=>trivial) HS.out (Below.refl _ _) hbase (by have:=HX.out;omega) ?_;intro v1 w1 ho hb hg hat)
   | go_in)
  go_ret
  exact ⟨_,rfl,ho,hb,hg⟩
 ·go_enter Tryz.func107,Tryz.ntmps107
  go_wp2_with (first
   | (at_builtin;refine Kd.S_append k45 (w0:=W) base rfl (.tmp 23) (.tmp 24) 30 45 (.agg #[.string ByteArray.empty, .int .i64 0, .int .i64 0, .slice none 0 0]) 56 rfl Tryz.underlying30 infoFlight rfl (by decide) (by decide) (.slice A n c) xs p cs (fun _=>True) okp rfl rfl HP.out hokp (fun _ _=>trivial) HS.out (Below.refl _ _) hbase (by have:=HX.out;omega) ?_;intro v1 w1 ho hb hg hat)
   | go_in)
  go_ret
  exact ⟨_,rfl,ho,hb,hg⟩
theorem insert_flights_any (A:Option Addr) (n c i:Nat) (xs:List Flight) (p:Flight) (cs:List Value) (base:Nat) (okp:Nat→Prop) (W:World) (hS:Kd.S k45 45 W base (fun k=>True∧¬ okp k) (.slice A n c) xs) (hp:k45.M W base okp p cs) (hokp:∀ k,okp k→True∧some k≠(Value.slice A n c).ownBlock) (hi:i≤n) (hn:n≤1000) (hbase:base≤W.heap.size) :
  Calls Tryz.prog 107 #[.slice A n c, .int .i64 i, .slice (some ⟨W.heap.size,0,none⟩) 1 1] (W.alloc (.cells cs.toArray 45)) fun e w'=>∃ v,e = .returned v∧Kd.S k45 45 w' base (fun _=>True) v (insAt i p xs)∧Below base W w'∧W.grownBy w' (Value.slice A n c).ownBlock:=by
 rcases Nat.lt_or_ge i n with hlt | hge
 ·obtain ⟨hnx,_,_⟩:=Kd.S_reads' hS
  obtain ⟨g,e1,hv,hg0,hg1,_,_⟩:=Kd.S_form hS (by omega)
  injection hv with hA _ _
  subst hA
  obtain ⟨_,hb,hgl,hnc,hm,_,cur,hh,hcs,_⟩:=S_cur hS
  have h1c:=S_one hS hh (Nat.succ_pos 3)
  have h1:∀ u∈cs,u.oneCell'=true:=k45.K_one (k45.K_of_M hp)
  have hcl:cs.length=4:=k45.K_len (k45.K_of_M hp)
  have hm':c≤9223372036854775807:=hm
  have hne:∀ k,okp k→True∧k≠g:=fun k hk=>⟨trivial,fun e=>(hokp k hk).2 (by rw [e];rfl)⟩
  rcases Nat.lt_or_ge n c with hrm | hful
  ·refine (insert_flights_room g n c i cur cs W hh hcs hlt hrm hm' hn hcl h1 h1c).mono ?_
   rintro e w' ⟨cur',rfl,hnew,hsz,htk,hg⟩
   have hBW:Below W.heap.size W (W.alloc (.cells cs.toArray 45)):=below_alloc (Below.refl _ _) _
   refine ⟨_,rfl,S_ins (Kd.S_alloc hS _) (blk_alloc hh _) hi (Kd.M_below hp hBW) hne (fun _ _=>trivial) hg hnew hsz hrm hm hb (.inl rfl) htk,(hBW.mono hbase).grown hg (Nat.le_trans hbase hBW.size) (fun k hk=>by injection hk with hk;omega),?_⟩
   exact ⟨hg.os.trans hBW.os,hg.tape.trans hBW.tape,hg.output.trans hBW.output,Nat.le_trans hBW.size hg.size,fun k hk hne=>(hg.block k (Nat.lt_of_lt_of_le hk hBW.size) hne).trans (hBW.block k hk)⟩
  ·obtain rfl:n=c:=by omega
   refine (insert_flights_grow g n i cur cs W hh hcs hlt hn hcl h1 h1c).mono ?_
   rintro e w' ⟨G,cur',rfl,hnew,hsz,hG1,hG2,htk,hB⟩
   exact ⟨_,rfl,S_ins hS hh hi hp hne (fun _ _=>trivial) ⟨hB.os,hB.tape,hB.output,hB.size,fun k hk _=>hB.block k hk⟩ hnew hsz hG1 hG2 (by omega) (.inr (by omega)) htk,hB.mono hbase,⟨hB.os,hB.tape,hB.output,hB.size,fun k hk _=>hB.block k hk⟩⟩
 ·obtain rfl:i=n:=by omega
  have hnx:=(Kd.S_reads' hS).1
  refine (insert_flights_end A i c xs p cs base okp W hS hp hokp hn hbase).mono ?_
  rintro e w' ⟨v,rfl,h,hB,hg⟩
  have e1:insAt i p xs=xs++[p]:=by unfold insAt;rw [hnx,List.take_length,List.drop_length,List.append_nil]
  exact ⟨v,rfl,by rw [e1];exact h,hB,hg⟩
set_option maxRecDepth 100000 in
set_option maxHeartbeats 4000000 in
theorem insert_ints_end (A:Option Addr) (n c:Nat) (xs:List Int) (p:Int) (cs:List Value) (base:Nat) (okp:Nat→Prop) (W:World) (hS:Kd.S (Kd.int .i64) 3 W base (fun k=>True∧¬ okp k) (.slice A n c) xs) (hp:(Kd.int .i64).M W base okp p cs) (hokp:∀ k,okp k→True∧some k≠(Value.slice A n c).ownBlock) (hn:n≤1000) (hbase:base≤W.heap.size) :
  Calls Tryz.prog 108 #[.slice A n c, .int .i64 n, .slice (some ⟨W.heap.size,0,none⟩) 1 1] (W.alloc (.cells cs.toArray 3)) fun e w'=>∃ v,e = .returned v∧Kd.S (Kd.int .i64) 3 w' base (fun _=>True) v (xs++[p])∧Below base W w'∧W.grownBy w' (Value.slice A n c).ownBlock:=by
 obtain ⟨hnx,hnc,hC⟩:=Kd.S_reads' hS
 have hcm:=C_len hC
 have j1:(n:Int)≤(c:Int):=by omega
 have HS:=Lib.hid hS
 have HP:=Lib.hid hp
 have HX:=Lib.hid hnx
 clear hS hp hC hnx
 by_cases hcn:n=c
 ·subst hcn
  go_enter Tryz.func108,Tryz.ntmps108
  go_wp2_with (first
   | (at_builtin;refine Kd.S_append (Kd.int .i64) (w0:=W) base rfl (.tmp 23) (.tmp 24) 31 3 (.int .i64 0) 8 rfl Tryz.underlying31 infoInt rfl (by decide) (by decide) (.slice A n n) xs p cs (fun _=>True) okp rfl rfl HP.out hokp (fun _ _=>trivial) HS.out (Below.refl _ _) hbase (by have:=HX.out;omega) ?_;intro v1 w1 ho hb hg hat)
   | go_in)
  go_ret
  exact ⟨_,rfl,ho,hb,hg⟩
 ·go_enter Tryz.func108,Tryz.ntmps108
  go_wp2_with (first
   | (at_builtin;refine Kd.S_append (Kd.int .i64) (w0:=W) base rfl (.tmp 23) (.tmp 24) 31 3 (.int .i64 0) 8 rfl Tryz.underlying31 infoInt rfl (by decide) (by decide) (.slice A n c) xs p cs (fun _=>True) okp rfl rfl HP.out hokp (fun _ _=>trivial) HS.out (Below.refl _ _) hbase (by have:=HX.out;omega) ?_;intro v1 w1 ho hb hg hat)
   | go_in)
  go_ret
  exact ⟨_,rfl,ho,hb,hg⟩
theorem insert_ints_any (A:Option Addr) (n c i:Nat) (xs:List Int) (p:Int) (cs:List Value) (base:Nat) (okp:Nat→Prop) (W:World) (hS:Kd.S (Kd.int .i64) 3 W base (fun k=>True∧¬ okp k) (.slice A n c) xs) (hp:(Kd.int .i64).M W base okp p cs) (hokp:∀ k,okp k→True∧some k≠(Value.slice A n c).ownBlock) (hi:i≤n) (hn:n≤1000) (hbase:base≤W.heap.size) :
  Calls Tryz.prog 108 #[.slice A n c, .int .i64 i, .slice (some ⟨W.heap.size,0,none⟩) 1 1] (W.alloc (.cells cs.toArray 3)) fun e w'=>∃ v,e = .returned v∧Kd.S (Kd.int .i64) 3 w' base (fun _=>True) v (insAt i p xs)∧Below base W w'∧W.grownBy w' (Value.slice A n c).ownBlock:=by
 rcases Nat.lt_or_ge i n with hlt | hge
 ·obtain ⟨hnx,_,_⟩:=Kd.S_reads' hS
  obtain ⟨g,e1,hv,hg0,hg1,_,_⟩:=Kd.S_form hS (by omega)
  injection hv with hA _ _
  subst hA
  obtain ⟨_,hb,hgl,hnc,hm,_,cur,hh,hcs,_⟩:=S_cur hS
  have h1c:=S_one hS hh (Nat.succ_pos 0)
  have h1:∀ u∈cs,u.oneCell'=true:=(Kd.int .i64).K_one ((Kd.int .i64).K_of_M hp)
  have hcl:cs.length=1:=(Kd.int .i64).K_len ((Kd.int .i64).K_of_M hp)
  have hm':c≤9223372036854775807:=hm
  have hne:∀ k,okp k→True∧k≠g:=fun k hk=>⟨trivial,fun e=>(hokp k hk).2 (by rw [e];rfl)⟩
  rcases Nat.lt_or_ge n c with hrm | hful
  ·refine (insert_ints_room g n c i cur cs W hh hcs hlt hrm hm' hn hcl h1 h1c).mono ?_
   rintro e w' ⟨cur',rfl,hnew,hsz,htk,hg⟩
   have hBW:Below W.heap.size W (W.alloc (.cells cs.toArray 3)):=below_alloc (Below.refl _ _) _
   refine ⟨_,rfl,S_ins (Kd.S_alloc hS _) (blk_alloc hh _) hi (Kd.M_below hp hBW) hne (fun _ _=>trivial) hg hnew hsz hrm hm hb (.inl rfl) htk,(hBW.mono hbase).grown hg (Nat.le_trans hbase hBW.size) (fun k hk=>by injection hk with hk;omega),?_⟩
   exact ⟨hg.os.trans hBW.os,hg.tape.trans hBW.tape,hg.output.trans hBW.output,Nat.le_trans hBW.size hg.size,fun k hk hne=>(hg.block k (Nat.lt_of_lt_of_le hk hBW.size) hne).trans (hBW.block k hk)⟩
  ·obtain rfl:n=c:=by omega
   refine (insert_ints_grow g n i cur cs W hh hcs hlt hn hcl h1 h1c).mono ?_
   rintro e w' ⟨G,cur',rfl,hnew,hsz,hG1,hG2,htk,hB⟩
   exact ⟨_,rfl,S_ins hS hh hi hp hne (fun _ _=>trivial) ⟨hB.os,hB.tape,hB.output,hB.size,fun k hk _=>hB.block k hk⟩ hnew hsz hG1 hG2 (by omega) (.inr (by omega)) htk,hB.mono hbase,⟨hB.os,hB.tape,hB.output,hB.size,fun k hk _=>hB.block k hk⟩⟩
 ·obtain rfl:i=n:=by omega
  have hnx:=(Kd.S_reads' hS).1
  refine (insert_ints_end A i c xs p cs base okp W hS hp hokp hn hbase).mono ?_
  rintro e w' ⟨v,rfl,h,hB,hg⟩
  have e1:insAt i p xs=xs++[p]:=by unfold insAt;rw [hnx,List.take_length,List.drop_length,List.append_nil]
  exact ⟨v,rfl,by rw [e1];exact h,hB,hg⟩
theorem addR_1 {b:Book} {f:Flight} (h:fitsB b.f0 b.f1 b.f2=false):addR b f=(emptyB,1):=by unfold addR okB;rw [if_pos h]
theorem addR_2 {b:Book} {f:Flight} (h:fitsB b.f0 b.f1 b.f2=true) (h2:flightB f=false):addR b f=(b,2):=by unfold addR okB;rw [if_neg (by rw [h];decide),if_pos h2]
theorem addR_3 {b:Book} {f:Flight} (h:fitsB b.f0 b.f1 b.f2=true) (h2:flightB f=true) (h3:0≤atB b.f1 f.f0):addR b f=(b,3):=by unfold addR okB;rw [if_neg (by rw [h];decide),if_neg (by rw [h2];decide),if_pos h3]
theorem addR_4 {b:Book} {f:Flight} (h:fitsB b.f0 b.f1 b.f2=true) (h2:flightB f=true) (h3:¬ 0≤atB b.f1 f.f0) (h4:8≤b.f1.length):addR b f=(b,4):=by unfold addR okB;rw [if_neg (by rw [h];decide),if_neg (by rw [h2];decide),if_neg h3,if_pos h4]
theorem addR_0 {b:Book} {f:Flight} (h:fitsB b.f0 b.f1 b.f2=true) (h2:flightB f=true) (h3:¬ 0≤atB b.f1 f.f0) (h4:¬ 8≤b.f1.length):addR b f=(addN b f,0):=by unfold addR okB;rw [if_neg (by rw [h];decide),if_neg (by rw [h2];decide),if_neg h3,if_neg h4]
theorem place_step {l:List Flight} {n:ByteArray} {k:Nat} {g:Flight} (hk:l[k]? = some g) (h:placeB l n=k+cntQ (fun g=>lessB g.f0 n) (l.drop k)):placeB l n=if lessB g.f0 n=true then k+1+cntQ (fun g=>lessB g.f0 n) (l.drop (k+1)) else k:=by
 have hlt:=some_lt hk
 have e:l.drop k=g :: l.drop (k+1):=by
  have:=List.drop_eq_getElem_cons hlt
  rw [List.getElem?_eq_getElem hlt] at hk
  rw [this,Option.some.inj hk]
 rw [h,e]
 show k+(if lessB g.f0 n=true then _ else _)=_
 split <;> omega
theorem place_end {l:List Flight} {n:ByteArray} {k:Nat} (hk:l.length≤k) (h:placeB l n=k+cntQ (fun g=>lessB g.f0 n) (l.drop k)):placeB l n=k:=by
 rw [h,List.drop_eq_nil_of_le hk];rfl
theorem OwnB.setOld {w:World} {base:Nat} {v0 v1 v2:Value} {b:Book} (h:OwnB w base v0 v1 v2 b) {p:Addr} (hp:p.block<base) (u:Value):OwnB (w.setCell p u) base v0 v1 v2 b :=
 ⟨Kd.R_mono (Kd.R_far (Kd.R_bound h.caps) (fun k hk=>by have:=hk.2.1;omega) u) (fun _ _=>trivial),Kd.S_mono (Kd.S_far (Kd.S_bound h.flights) (fun k hk=>by have:=hk.2.1;omega) u) (fun _ _=>trivial),Kd.R_mono (Kd.R_far (Kd.R_bound h.slots) (fun k hk=>by have:=hk.2.1;omega) u) (fun _ _=>trivial)⟩
theorem S_oldp {α:Type} {d:Kd α} {e base N:Nat} {w w1:World} {ok:Nat→Prop} {v:Value} {xs:List α} (h:Kd.S d e w base ok v xs) (hb:Below w.heap.size w w1) {p:Addr} (hp:p.block<base) (u:Value):Kd.S d e (w1.setCell p u) base (fun k=>True∧¬ (w.heap.size≤k∧k<N)) v xs :=
 Kd.S_mono (Kd.S_far (Kd.S_below (Kd.S_bound h) hb) (fun k hk=>by have:=hk.2.1;omega) u) (fun k hk=>⟨trivial,fun hh=>by have:=hk.2.2.1;omega⟩)
theorem insAt_at {α:Type} {k:Nat} {x:α} {l:List α} (h:k≤l.length):(insAt k x l)[k]? = some x:=by
 unfold insAt
 rw [List.append_assoc,List.getElem?_append_right (by rw [List.length_take];omega),List.length_take,Nat.min_eq_left h,Nat.sub_self]
 rfl
set_option maxRecDepth 100000 in
set_option maxHeartbeats 8000000 in
theorem impl_flowAdd_any (A0:Option Addr) (c0:Nat) (A1:Option Addr) (c1:Nat) (A2:Option Addr) (c2:Nat) (b:Book) (f:Flight) (A3:Option Addr) (c3:Nat) (w:World) (hr0:Kd.C k80 w A0 b.f0.length b.f0) (hr1:Kd.C k45 w A1 b.f1.length b.f1) (hr2:Kd.C (Kd.int .i64) w A2 b.f2.length b.f2) (hr3:Kd.C k52 w A3 f.f3.length f.f3) (hc3:f.f3.length≤c3) :
  Calls Tryz.prog 70 #[.agg #[.slice A0 b.f0.length c0, .slice A1 b.f1.length c1, .slice A2 b.f2.length c2], .agg #[.string f.f0, .int .i64 f.f1, .int .i64 f.f2, .slice A3 f.f3.length c3]] w fun e w'=>∃ v0 v1 v2,e = .returned (.tuple #[.agg #[v0,v1,v2], .int .i64 (addR b f).2])∧OwnB w' w.heap.size v0 v1 v2 (addR b f).1∧Below w.heap.size w w':=by
 obtain ⟨W,hW⟩:∃ W,W=((w.alloc (.cells #[.slice A0 b.f0.length c0, .slice A1 b.f1.length c1, .slice A2 b.f2.length c2] 33)).alloc (.cells #[.string f.f0, .int .i64 f.f1, .int .i64 f.f2, .slice A3 f.f3.length c3] 45)).alloc (.cells #[.slice none 0 0, .slice none 0 0, .slice none 0 0] 33):=⟨_,rfl⟩
 have hba:Below w.heap.size w W:=by rw [hW];exact below_alloc (below_alloc (below_alloc (Below.refl _ _) _) _) _
 have X0:W.heap[w.heap.size]? = some (.cells #[.slice A0 b.f0.length c0, .slice A1 b.f1.length c1, .slice A2 b.f2.length c2] 33 (0,0)):=by rw [hW];exact blk_alloc (blk_alloc (blk_new w _) _) _
 have F0:W.heap[w.heap.size+1]? = some (.cells #[.string f.f0, .int .i64 f.f1, .int .i64 f.f2, .slice A3 f.f3.length c3] 45 (0,0)):=by
  have t:=blk_new (w.alloc (.cells #[.slice A0 b.f0.length c0, .slice A1 b.f1.length c1, .slice A2 b.f2.length c2] 33)) (.cells #[.string f.f0, .int .i64 f.f1, .int .i64 f.f2, .slice A3 f.f3.length c3] 45)
  rw [World.size_alloc] at t
  rw [hW]
  exact blk_alloc t _
 have Z0:W.heap[w.heap.size+2]? = some (.cells #[.slice none 0 0, .slice none 0 0, .slice none 0 0] 33 (0,0)):=by
  have t:=blk_new ((w.alloc (.cells #[.slice A0 b.f0.length c0, .slice A1 b.f1.length c1, .slice A2 b.f2.length c2] 33)).alloc (.cells #[.string f.f0, .int .i64 f.f1, .int .i64 f.f2, .slice A3 f.f3.length c3] 45)) (.cells #[.slice none 0 0, .slice none 0 0, .slice none 0 0] 33)
  rw [World.size_alloc,World.size_alloc] at t
  rw [hW]
  exact t
 have zW:W.heap.size=w.heap.size+3:=by rw [hW];simp
 have QF:=Lib.hid (impl_bookOk_any A0 c0 b.f0 A1 c1 b.f1 A2 c2 b.f2 W (Kd.C_below hr0 hba) (Kd.C_below hr1 hba) (Kd.C_below hr2 hba))
 have f0:=(blk_cell X0 0).trans rfl
 have f1:=(blk_cell X0 1).trans rfl
 have f2:=(blk_cell X0 2).trans rfl
 go_enter Tryz.func70,Tryz.ntmps70
 go_wp2_with (fail)
 rw [← hW]
 refine QF.out.mono ?_
 rintro e w3 ⟨rfl,hb3⟩
 have X3:=Lib.hid (blk_below X0 hb3)
 have F3:=Lib.hid (blk_below F0 hb3)
 have Z3:=Lib.hid (blk_below Z0 hb3)
 have B3:=Lib.hid (below_next hba hba.size hb3)
 have z3:w.heap.size+3≤w3.heap.size:=by have:=hb3.size;omega
 clear QF f0 f1 f2 X0 F0 Z0 hba hW zW hb3
 have f0:=(blk_cell X3.out 0).trans rfl
 have f1:=(blk_cell X3.out 1).trans rfl
 have f2:=(blk_cell X3.out 2).trans rfl
 cases hfit:fitsB b.f0 b.f1 b.f2 with
 | false =>
  have cr0:=(blk_cell Z3.out 0).trans rfl
  have cr1:=(blk_cell Z3.out 1).trans rfl
  have cr2:=(blk_cell Z3.out 2).trans rfl
  have pr0:=blk_frozen Z3.out 0
  have pr1:=blk_frozen Z3.out 1
  have pr2:=blk_frozen Z3.out 2
  have s0:=blk_set Z3.out 0 (.slice none 0 0)
  have s1:=blk_set s0 1 (.slice none 0 0)
  have s2:=Lib.hid (blk_set s1 2 (.slice none 0 0))
  have HF:=Lib.hid hfit
  clear s0 s1 hfit
  go_wp2
  refine bodyPost_ret (results_ct rfl _ _ (w.heap.size+2) 33 #[.slice none 0 0, .slice none 0 0, .slice none 0 0] (0,0) _ rfl s2.out Tryz.underlying33 rfl (by kernel_rfl)) rfl ?_
  obtain ⟨h1,h2⟩:=(emptyO w3 w.heap.size).res B3.out Z3.out (by omega) (.slice none 0 0) (.slice none 0 0) (.slice none 0 0)
  rw [addR_1 HF.out]
  exact ⟨_,_,_,rfl,h1,h2⟩
 | true =>
 obtain ⟨l0,l1,l2,l3⟩:=fits_small hfit
 have hlen:=(slotsB_parts (fitsB_parts hfit).2.1).2.1
 have hl8:=(flightsB_parts (slotsB_parts (fitsB_parts hfit).2.1).1).1
 have hlv:=C_len hr3
 have HF:=Lib.hid hfit
 have HR1:=Lib.hid hr1
 have HR3:=Lib.hid hr3
 have QC:=Lib.hid (impl_copy_any A0 c0 A1 c1 A2 c2 b w3 (Kd.C_below hr0 B3.out) (Kd.C_below hr1 B3.out) (Kd.C_below hr2 B3.out) l0 l1 l2 l3)
 have HL:=Lib.hid hlen
 have HL8:=Lib.hid hl8
 have HLV:=Lib.hid hlv
 have HC3:=Lib.hid hc3
 clear l0 l1 l2 l3 hfit hr0 hr1 hr2 hr3 hlen hl8 hlv hc3
 go_wp2_with (fail)
 refine QC.out.mono ?_
 rintro e w4 ⟨v0,v1,v2,rfl,hO4,hb4⟩
 obtain ⟨B0,d0,B1,d1,B2,d2,rfl,rfl,rfl,_,_,_⟩:=hO4.form
 have z4:=hb4.size
 have hb5:Below w4.heap.size w4 (w4.alloc (.cells #[.slice B0 b.f0.length d0, .slice B1 b.f1.length d1, .slice B2 b.f2.length d2] 33)):=below_alloc (Below.refl _ _) _
 have B4:=below_next B3.out B3.out.size hb4
 have B5:=Lib.hid (below_next B4 B4.size hb5)
 have X5:=Lib.hid (blk_below (blk_below X3.out hb4) hb5)
 have F5:=Lib.hid (blk_below (blk_below F3.out hb4) hb5)
 have Z5:=Lib.hid (blk_below (blk_below Z3.out hb4) hb5)
 have O5:=Lib.hid (hO4.below hb5)
 have Y5:=Lib.hid (blk_new w4 (.cells #[.slice B0 b.f0.length d0, .slice B1 b.f1.length d1, .slice B2 b.f2.length d2] 33))
 have zz:(w4.alloc (.cells #[.slice B0 b.f0.length d0, .slice B1 b.f1.length d1, .slice B2 b.f2.length d2] 33)).heap.size=w4.heap.size+1:=by simp
 clear hO4 hb4 hb5 B4 X3 F3 Z3 QC f0 f1 f2
 have f0:=(blk_cell F5.out 0).trans rfl
 have f1:=(blk_cell F5.out 1).trans rfl
 have f2:=(blk_cell F5.out 2).trans rfl
 have f3:=(blk_cell F5.out 3).trans rfl
 go_wp2_with (fail)
 refine (impl_flightOk_any A3 c3 f _ (Kd.C_below HR3.out B5.out) HLV.out).mono ?_
 rintro e w6 ⟨rfl,hb6⟩
 have B6:=Lib.hid (below_next B5.out B5.out.size hb6)
 have X6:=Lib.hid (blk_below X5.out hb6)
 have F6:=Lib.hid (blk_below F5.out hb6)
 have Z6:=Lib.hid (blk_below Z5.out hb6)
 have O6:=Lib.hid (O5.out.below hb6)
 have Y6:=Lib.hid (blk_below Y5.out hb6)
 have z6:=hb6.size
 rw [zz] at z6
 clear hb6 X5 F5 Z5 O5 Y5 B5 f0 f1 f2 f3 zz
 have y0:=(blk_cell Y6.out 0).trans rfl
 have y1:=(blk_cell Y6.out 1).trans rfl
 have y2:=(blk_cell Y6.out 2).trans rfl
 cases hfl:flightB f with
 | false =>
  have HFL:=Lib.hid hfl
  clear hfl
  have cr0:=(blk_cell Z6.out 0).trans rfl
  have cr1:=(blk_cell Z6.out 1).trans rfl
  have cr2:=(blk_cell Z6.out 2).trans rfl
  have pr0:=blk_frozen Z6.out 0
  have pr1:=blk_frozen Z6.out 1
  have pr2:=blk_frozen Z6.out 2
  have s0:=blk_set Z6.out 0 (.slice B0 b.f0.length d0)
  have s1:=blk_set s0 1 (.slice B1 b.f1.length d1)
  have s2:=Lib.hid (blk_set s1 2 (.slice B2 b.f2.length d2))
  clear s0 s1
  go_wp2
  refine bodyPost_ret (results_ct rfl _ _ (w.heap.size+2) 33 #[.slice B0 b.f0.length d0, .slice B1 b.f1.length d1, .slice B2 b.f2.length d2] (0,0) _ rfl s2.out Tryz.underlying33 rfl (by kernel_rfl)) rfl ?_
  obtain ⟨h1,h2⟩:=(O6.out.lower (base':=w.heap.size) (by omega)).res B6.out Z6.out (by omega) (.slice B0 b.f0.length d0) (.slice B1 b.f1.length d1) (.slice B2 b.f2.length d2)
  rw [addR_2 HF.out HFL.out]
  exact ⟨_,_,_,rfl,h1,h2⟩
 | true =>
 have HFL:=Lib.hid hfl
 clear hfl y0 y1 y2
 have x0:=(blk_cell X6.out 0).trans rfl
 have x1:=(blk_cell X6.out 1).trans rfl
 have x2:=(blk_cell X6.out 2).trans rfl
 have f0:=(blk_cell F6.out 0).trans rfl
 go_wp2_with (fail)
 refine (impl_at_any A0 b.f0.length c0 A1 c1 b.f1 A2 b.f2.length c2 f.f0 _ (Kd.C_below HR1.out B6.out)).mono ?_
 rintro e w7 ⟨rfl,hb7⟩
 have B7:=Lib.hid (below_next B6.out B6.out.size hb7)
 have X7:=Lib.hid (blk_below X6.out hb7)
 have F7:=Lib.hid (blk_below F6.out hb7)
 have Z7:=Lib.hid (blk_below Z6.out hb7)
 have O7:=Lib.hid (O6.out.below hb7)
 have Y7:=Lib.hid (blk_below Y6.out hb7)
 have z7:=hb7.size
 clear hb7 X6 F6 Z6 O6 Y6 B6 f0 x0 x1 x2
 have y0:=(blk_cell Y7.out 0).trans rfl
 have y1:=(blk_cell Y7.out 1).trans rfl
 have y2:=(blk_cell Y7.out 2).trans rfl
 by_cases ha:0≤atB b.f1 f.f0
 ·have HA:=Lib.hid ha
  have e1:decide (atB b.f1 f.f0 ≥ 0)=true:=decide_eq_true ha
  have e2:decide (0≤atB b.f1 f.f0)=true:=decide_eq_true ha
  clear ha
  have cr0:=(blk_cell Z7.out 0).trans rfl
  have cr1:=(blk_cell Z7.out 1).trans rfl
  have cr2:=(blk_cell Z7.out 2).trans rfl
  have pr0:=blk_frozen Z7.out 0
  have pr1:=blk_frozen Z7.out 1
  have pr2:=blk_frozen Z7.out 2
  have s0:=blk_set Z7.out 0 (.slice B0 b.f0.length d0)
  have s1:=blk_set s0 1 (.slice B1 b.f1.length d1)
  have s2:=Lib.hid (blk_set s1 2 (.slice B2 b.f2.length d2))
  clear s0 s1
  go_wp2
  refine bodyPost_ret (results_ct rfl _ _ (w.heap.size+2) 33 #[.slice B0 b.f0.length d0, .slice B1 b.f1.length d1, .slice B2 b.f2.length d2] (0,0) _ rfl s2.out Tryz.underlying33 rfl (by kernel_rfl)) rfl ?_
  obtain ⟨h1,h2⟩:=(O7.out.lower (base':=w.heap.size) (by omega)).res B7.out Z7.out (by omega) (.slice B0 b.f0.length d0) (.slice B1 b.f1.length d1) (.slice B2 b.f2.length d2)
  rw [addR_3 HF.out HFL.out HA.out]
  exact ⟨_,_,_,rfl,h1,h2⟩
 have HA:=Lib.hid ha
 have e1:decide (atB b.f1 f.f0 ≥ 0)=false:=decide_eq_false ha
 have e2:decide (0≤atB b.f1 f.f0)=false:=decide_eq_false ha
 clear ha
 have x1:=(blk_cell X7.out 1).trans rfl
 by_cases h8:8≤b.f1.length
 ·have H8:=Lib.hid h8
  have e3:((b.f1.length:Int) == 8)=true:=by have:=HL8.out;simp;omega
  clear h8
  have cr0:=(blk_cell Z7.out 0).trans rfl
  have cr1:=(blk_cell Z7.out 1).trans rfl
  have cr2:=(blk_cell Z7.out 2).trans rfl
  have pr0:=blk_frozen Z7.out 0
  have pr1:=blk_frozen Z7.out 1
  have pr2:=blk_frozen Z7.out 2
  have s0:=blk_set Z7.out 0 (.slice B0 b.f0.length d0)
  have s1:=blk_set s0 1 (.slice B1 b.f1.length d1)
  have s2:=Lib.hid (blk_set s1 2 (.slice B2 b.f2.length d2))
  clear s0 s1
  go_wp2
  refine bodyPost_ret (results_ct rfl _ _ (w.heap.size+2) 33 #[.slice B0 b.f0.length d0, .slice B1 b.f1.length d1, .slice B2 b.f2.length d2] (0,0) _ rfl s2.out Tryz.underlying33 rfl (by kernel_rfl)) rfl ?_
  obtain ⟨h1,h2⟩:=(O7.out.lower (base':=w.heap.size) (by omega)).res B7.out Z7.out (by omega) (.slice B0 b.f0.length d0) (.slice B1 b.f1.length d1) (.slice B2 b.f2.length d2)
  rw [addR_4 HF.out HFL.out (by have:=HA.out;omega) H8.out]
  exact ⟨_,_,_,rfl,h1,h2⟩
 have H8:=Lib.hid h8
 have e3:((b.f1.length:Int) == 8)=false:=by simp;omega
 clear h8
 go_wp2
 clear x1 y0 y1 y2 e1 e2 e3
 go_loopw [7] (fun vk wr=>∃ k:Nat,vk = .int .i64 k∧k≤b.f1.length∧Hid (placeB b.f1 f.f0=k+cntQ (fun g=>lessB g.f0 f.f0) (b.f1.drop k))∧Hid (Below w7.heap.size w7 wr)) (fun vk _=>b.f1.length-(intOf vk).toNat)
 case atStart=>exact ⟨0,rfl,Nat.zero_le _,by show _=_;simp [placeB],Below.refl _ _⟩
 case round =>
  obtain ⟨k,rfl,hk,HPL,HB⟩:=hrel
  have hk8:=HL8.out
  go_upto_region 11 with (fail)
  go_cut [47] (fun s47 wx=>s47 = .bool (decide (k<placeB b.f1 f.f0))∧Hid (Below w7.heap.size w7 wx))
  case first =>
   have y1:=(blk_cell (blk_below Y7.out HB.out) 1).trans rfl
   have f0:=(blk_cell (blk_below F7.out HB.out) 0).trans rfl
   by_cases hlt:k<b.f1.length
   ·have j1:(k:Int)<(b.f1.length:Int):=by omega
    obtain ⟨ad,g,G3,gc3,rfl,hg,g0,g1,g2,g3,_,_⟩:=flightAt (Kd.C_below (Kd.S_reads' O7.out.flights).2.2 HB.out) k hlt
    have hst:=place_step hg HPL.out
    cases hq:lessB g.f0 f.f0 with
    | true =>
     rw [hq,if_pos rfl] at hst
     have hd:decide (k<placeB b.f1 f.f0)=true:=decide_eq_true (by omega)
     have hbl:Op.bytesLess g.f0.toList f.f0.toList=true:=hq
     have HD:=Lib.hid hd
     clear hst hd hg hq
     go_region_held3 (fun W'=>W'.cell? ⟨w4.heap.size,1,none⟩=some (.slice (some ad) b.f1.length d1)∧W'.cell? ⟨w.heap.size+1,0,none⟩=some (.string f.f0)∧W'.cell? (ad.add (k*4))=some (.string g.f0)) (go_keep) (fail)
     all_goals
      go_wp2_with (fail)
      go_meet
      exact ⟨by rw [HD.out],pw_below_drewN HB.out 1⟩
    | false =>
     rw [hq,if_neg (by decide)] at hst
     have hd:decide (k<placeB b.f1 f.f0)=false:=decide_eq_false (by omega)
     have hbl:Op.bytesLess g.f0.toList f.f0.toList=false:=hq
     have HD:=Lib.hid hd
     clear hst hd hg hq
     go_region_held3 (fun W'=>W'.cell? ⟨w4.heap.size,1,none⟩=some (.slice (some ad) b.f1.length d1)∧W'.cell? ⟨w.heap.size+1,0,none⟩=some (.string f.f0)∧W'.cell? (ad.add (k*4))=some (.string g.f0)) (go_keep) (fail)
     all_goals
      go_wp2_with (fail)
      go_meet
      exact ⟨by rw [HD.out],pw_below_drewN HB.out 1⟩
   ·have j1:¬ (k:Int)<(b.f1.length:Int):=by omega
    have hst:=place_end (by omega) HPL.out
    have hd:decide (k<placeB b.f1 f.f0)=false:=decide_eq_false (by omega)
    have HD:=Lib.hid hd
    clear hst hd
    go_quiet (fail)
    all_goals
     go_wp2_with (fail)
     go_meet
     exact ⟨by rw [HD.out],pw_below_drewN HB.out _⟩
  case rest =>
   clear HB
   obtain ⟨rfl,HB⟩:=hcut
   by_cases hkp:k<placeB b.f1 f.f0
   ·have hd:decide (k<placeB b.f1 f.f0)=true:=decide_eq_true hkp
    have hst:k<b.f1.length∧placeB b.f1 f.f0=k+1+cntQ (fun g=>lessB g.f0 f.f0) (b.f1.drop (k+1)):=by
     by_cases hlt:k<b.f1.length
     ·have:=place_step (List.getElem?_eq_getElem hlt) HPL.out
      split at this
      ·exact ⟨hlt,this⟩
      ·omega
     ·have:=place_end (by omega) HPL.out
      omega
    have HST:=Lib.hid hst.2
    have hlt:=hst.1
    rw [hd]
    clear hst hd
    go_wp2
    go_roundw
    case rel=>exact ⟨k+1,by go_num,hlt,HST,HB⟩
    case measure=>simp [intOf];omega
   ·have hd:decide (k<placeB b.f1 f.f0)=false:=decide_eq_false hkp
    have HPK:Hid (placeB b.f1 f.f0=k):=by show _=_;have:=HPL.out;omega
    rw [hd]
    clear hd HPL hkp
    have hvl:=(visitsB_parts (flightB_parts HFL.out).2.2.2.2.2).2.1
    have B8:=Lib.hid (below_next B7.out B7.out.size HB.out)
    have F8:=Lib.hid (blk_below F7.out HB.out)
    have Z8:=Lib.hid (blk_below Z7.out HB.out)
    have O8:=Lib.hid (O7.out.below HB.out)
    have Y8:=Lib.hid (blk_below Y7.out HB.out)
    have z8:=HB.out.size
    clear HB O7 Y7 Z7 F7 B7 X7
    have f3:=(blk_cell F8.out 3).trans rfl
    go_wp2_with (fail)
    refine (clone_visits_any A3 c3 f.f3 _ (Kd.C_below HR3.out B8.out) (by omega)).mono ?_
    rintro e w9 ⟨v9,rfl,hv9,hb9⟩
    obtain ⟨A9,c9,rfl⟩:=Kd.R_slice hv9
    have z9:=hb9.size
    have F9:=Lib.hid (blk_below F8.out hb9)
    have p3:=blk_frozen F9.out 3
    have q3:=(blk_cell F9.out 3).trans rfl
    have F10:=Lib.hid (blk_set F9.out 3 (.slice A9 f.f3.length c9))
    have f0:=(blk_cell F10.out 0).trans rfl
    have f1:=(blk_cell F10.out 1).trans rfl
    have f2:=(blk_cell F10.out 2).trans rfl
    have f3:=(blk_cell F10.out 3).trans rfl
    have hlt3:w.heap.size+1<w3.heap.size:=by omega
    have O10:=Lib.hid ((O8.out.below hb9).setOld (p:=⟨w.heap.size+1,3,none⟩) hlt3 (.slice A9 f.f3.length c9))
    have Y10:=Lib.hid (blk_far (blk_below Y8.out hb9) (p:=⟨w.heap.size+1,3,none⟩) (by simp;omega) (.slice A9 f.f3.length c9))
    have Z10:=Lib.hid (blk_far (blk_below Z8.out hb9) (p:=⟨w.heap.size+1,3,none⟩) (by simp) (.slice A9 f.f3.length c9))
    have B10:=Lib.hid ((below_next B8.out B8.out.size hb9).setCell (p:=⟨w.heap.size+1,3,none⟩) (by show w.heap.size≤w.heap.size+1;omega) (.slice A9 f.f3.length c9))
    have hS10:=Lib.hid (S_oldp (N:=w9.heap.size) O8.out.flights hb9 (p:=⟨w.heap.size+1,3,none⟩) hlt3 (.slice A9 f.f3.length c9))
    have hv10:Kd.R k52 52 (w9.setCell ⟨w.heap.size+1,3,none⟩ (.slice A9 f.f3.length c9)) w3.heap.size (fun j=>wc.heap.size≤j∧j<w9.heap.size) (.slice A9 f.f3.length c9) f.f3 :=
     Kd.R_lower (Kd.R_mono (Kd.R_far (Kd.R_bound hv9) (p:=⟨w.heap.size+1,3,none⟩) (fun j hj=>by have:=hj.2.1;show j≠w.heap.size+1;omega) (.slice A9 f.f3.length c9)) (fun j hj=>⟨hj.2.1,hj.2.2.1⟩)) (by omega)
    have hM10:=Lib.hid (k45_mkM _ _ _ f hv10)
    have y1:=(blk_cell Y10.out 1).trans rfl
    have zz:(w9.setCell ⟨w.heap.size+1,3,none⟩ (.slice A9 f.f3.length c9)).heap.size=w9.heap.size:=by simp
    have hB1:∀ j,(Value.slice B1 b.f1.length d1).ownBlock=some j→w3.heap.size≤j∧j<wc.heap.size:=fun j hj=>⟨((Kd.R_bound (Kd.S_R O8.out.flights)).1 j hj).2.1,((Kd.R_bound (Kd.S_R O8.out.flights)).1 j hj).2.2.1⟩
    have hk8:=HL8.out
    have QI:=insert_flights_any B1 b.f1.length d1 k b.f1 f [.string f.f0, .int .i64 f.f1, .int .i64 f.f2, .slice A9 f.f3.length c9] w3.heap.size (fun j=>wc.heap.size≤j∧j<w9.heap.size) (w9.setCell ⟨w.heap.size+1,3,none⟩ (.slice A9 f.f3.length c9)) hS10.out hM10.out (fun j hj=>⟨trivial,fun e=>by have:=(hB1 j e.symm).2;omega⟩) hk (by omega) (by rw [zz];omega)
    rw [zz] at QI
    have QI:=Lib.hid QI
    clear hv9 hb9 hv10 O8 Y8 Z8 B8 F8 hS10 hM10 hB1
    go_wp2_with (fail)
    refine QI.out.mono ?_
    rintro e w11 ⟨v11,rfl,hS11,hB11,hg11⟩
    obtain ⟨A11,c11,rfl⟩:=Kd.S_slice hS11
    have zs:(w9.setCell ⟨w.heap.size+1,3,none⟩ (.slice A9 f.f3.length c9)).heap.size≤w11.heap.size:=hg11.size
    rw [zz] at zs
    have Y11:=Lib.hid (blk_grown Y10.out hg11 (Kd.S_ne O10.out.flights Y10.out (by decide)))
    have Z11:=Lib.hid (blk_grown Z10.out hg11 (Kd.S_ne O10.out.flights Z10.out (by decide)))
    have O11:Hid (OwnB w11 w3.heap.size (.slice B0 b.f0.length d0) (.slice A11 (insAt k f b.f1).length c11) (.slice B2 b.f2.length d2) ⟨b.f0,insAt k f b.f1,b.f2⟩):=⟨Kd.R_over' O10.out.caps (Kd.S_typed O10.out.flights) (by decide) hg11,hS11,Kd.R_over' O10.out.slots (Kd.S_typed O10.out.flights) (by decide) hg11⟩
    have B11:=Lib.hid (B10.out.trans (hB11.mono (by omega)))
    clear QI hS11 hB11 hg11 O10 Y10 Z10 B10 F9 F10 f0 f1 f2 f3 p3 q3 y1 zz
    have p1:=blk_frozen Y11.out 1
    have r1:=(blk_cell Y11.out 1).trans rfl
    have Y12:=Lib.hid (blk_set Y11.out 1 (.slice A11 (insAt k f b.f1).length c11))
    have O12:=Lib.hid (O11.out.cell Y11.out 1 (.slice A11 (insAt k f b.f1).length c11))
    have Z12:=Lib.hid (blk_far Z11.out (p:=⟨w4.heap.size,1,none⟩) (by simp;omega) (.slice A11 (insAt k f b.f1).length c11))
    have B12:=Lib.hid (B11.out.setCell (p:=⟨w4.heap.size,1,none⟩) (by show w.heap.size≤w4.heap.size;omega) (.slice A11 (insAt k f b.f1).length c11))
    have y2:=(blk_cell Y12.out 2).trans rfl
    have zz:(w11.setCell ⟨w4.heap.size,1,none⟩ (.slice A11 (insAt k f b.f1).length c11)).heap.size=w11.heap.size:=by simp
    have hkl:k≤b.f2.length:=by rw [HL.out];exact hk
    have QJ:=insert_ints_any B2 b.f2.length d2 k b.f2 (-1) [.int .i64 (-1)] w3.heap.size (fun _=>False) (w11.setCell ⟨w4.heap.size,1,none⟩ (.slice A11 (insAt k f b.f1).length c11)) (Kd.S_mono (S_ints O12.out.slots) (fun _ _=>⟨trivial,fun h=>h⟩)) rfl (fun j h=>h.elim) hkl (by rw [HL.out];omega) (by rw [zz];omega)
    rw [zz] at QJ
    have QJ:=Lib.hid QJ
    go_wp2_with (fail)
    refine QJ.out.mono ?_
    rintro e w13 ⟨v13,rfl,hS13,hB13,hg13⟩
    obtain ⟨A13,c13,rfl⟩:=Kd.S_slice hS13
    have zs3:(w11.setCell ⟨w4.heap.size,1,none⟩ (.slice A11 (insAt k f b.f1).length c11)).heap.size≤w13.heap.size:=hg13.size
    rw [zz] at zs3
    have Y13:=Lib.hid (blk_grown Y12.out hg13 (Kd.R_ne O12.out.slots Y12.out (by decide)))
    have Z13:=Lib.hid (blk_grown Z12.out hg13 (Kd.R_ne O12.out.slots Z12.out (by decide)))
    have O13:Hid (OwnB w13 w3.heap.size (.slice B0 b.f0.length d0) (.slice A11 (insAt k f b.f1).length c11) (.slice A13 (insAt k (-1) b.f2).length c13) ⟨b.f0,insAt k f b.f1,insAt k (-1) b.f2⟩):=⟨Kd.R_over' O12.out.caps (Kd.R_typed O12.out.slots) (by decide) hg13,Kd.S_over' O12.out.flights (Kd.R_typed O12.out.slots) (by decide) hg13,Kd.S_R hS13⟩
    have B13:=Lib.hid (B12.out.trans (hB13.mono (by omega)))
    clear QJ hS13 hB13 hg13 O11 Y11 Z11 B11 O12 Y12 Z12 B12 p1 r1 y2 zz
    have p2:=blk_frozen Y13.out 2
    have r2:=(blk_cell Y13.out 2).trans rfl
    have Y14:=Lib.hid (blk_set Y13.out 2 (.slice A13 (insAt k (-1) b.f2).length c13))
    have O14:=Lib.hid (O13.out.cell Y13.out 2 (.slice A13 (insAt k (-1) b.f2).length c13))
    have Z14:=Lib.hid (blk_far Z13.out (p:=⟨w4.heap.size,2,none⟩) (by simp;omega) (.slice A13 (insAt k (-1) b.f2).length c13))
    have B14:=Lib.hid (B13.out.setCell (p:=⟨w4.heap.size,2,none⟩) (by show w.heap.size≤w4.heap.size;omega) (.slice A13 (insAt k (-1) b.f2).length c13))
    have zz:(w13.setCell ⟨w4.heap.size,2,none⟩ (.slice A13 (insAt k (-1) b.f2).length c13)).heap.size=w13.heap.size:=by simp
    clear O13 Z13 B13
    have hins:=ins_fits (b:=b) HF.out HFL.out (by have:=HA.out;omega) (by have:=H8.out;omega)
    rw [HPK.out] at hins
    obtain ⟨hcs,hss,hts,_⟩:=fitsB_parts hins
    have hl1:(insAt k f b.f1).length=b.f1.length+1:=insAt_len f hk
    have hl2:(insAt k (-1) b.f2).length=b.f2.length+1:=insAt_len (-1) hkl
    obtain ⟨g13,e13,hv13,hg0,_,_,_⟩:=Kd.R_form O14.out.slots (show 0<(insAt k (-1) b.f2).length by omega)
    injection hv13 with hA13 _ he13
    subst hA13
    subst he13
    have hxk:(insAt k f b.f1)[k]? = some f:=insAt_at hk
    have Q16:=Lib.hid (fun V (h:Below (w13.setCell ⟨w4.heap.size,2,none⟩ (.slice (some ⟨g13,0,none⟩) (insAt k (-1) b.f2).length c13)).heap.size (w13.setCell ⟨w4.heap.size,2,none⟩ (.slice (some ⟨g13,0,none⟩) (insAt k (-1) b.f2).length c13)) V) =>
     (impl_least_any B0 d0 b.f0 A11 c11 (insAt k f b.f1) (some ⟨g13,0,none⟩) c13 (insAt k (-1) b.f2) k f V (Kd.C_below (Kd.R_reads' O14.out.caps).2.2 h) (Kd.C_below (Kd.S_reads' O14.out.flights).2.2 h) (Kd.C_below (Kd.R_reads' O14.out.slots).2.2 h) hxk hcs hss))
    have HXK:=Lib.hid hxk
    have g0:=(blk_cell Y14.out 0).trans rfl
    have g1:=(blk_cell Y14.out 1).trans rfl
    have g2:=(blk_cell Y14.out 2).trans rfl
    have j1:(k:Int)<((insAt k (-1) b.f2).length:Int):=by omega
    have bd:Below (w13.setCell ⟨w4.heap.size,2,none⟩ (.slice (some ⟨g13,0,none⟩) (insAt k (-1) b.f2).length c13)).heap.size (w13.setCell ⟨w4.heap.size,2,none⟩ (.slice (some ⟨g13,0,none⟩) (insAt k (-1) b.f2).length c13)) (w13.setCell ⟨w4.heap.size,2,none⟩ (.slice (some ⟨g13,0,none⟩) (insAt k (-1) b.f2).length c13)).drew:=pw_below_drewN (Below.refl _ _) 1
    have BD:=Lib.hid bd
    have HNE:Hid (g13≠w4.heap.size):=fun e=>(Kd.R_ne O14.out.slots Y14.out (by decide)) (by rw [← e];rfl)
    have HNZ:Hid (g13≠w.heap.size+2):=by show _≠_;omega
    have HL1A:=Lib.hid hl1
    have HL2A:=Lib.hid hl2
    clear bd hins hcs hss hts hxk hl1 hl2
    go_upto_region 16 with (fail)
    go_region_held3 (fun W'=>W'.cell? ⟨w4.heap.size,0,none⟩=some (.slice B0 b.f0.length d0)∧W'.cell? ⟨w4.heap.size,1,none⟩=some (.slice A11 (insAt k f b.f1).length c11)∧W'.cell? ⟨w4.heap.size,2,none⟩=some (.slice (some ⟨g13,0,none⟩) (insAt k (-1) b.f2).length c13)) (first | go_keep | exact ⟨(World.cell?_setCell_far _ _ _ _ HNE.out).trans (by assumption),(World.cell?_setCell_far _ _ _ _ HNE.out).trans (by assumption),(World.cell?_setCell_far _ _ _ _ HNE.out).trans (by assumption)⟩) (first
     | (go_at_call 80;refine (Q16.out _ BD.out).mono ?_;rintro e w15 ⟨rfl,hb15⟩;have b15:=BD.out.trans hb15;have g0:=pw_cell_below b15 g0;have g1:=pw_cell_below b15 g1;have g2:=pw_cell_below b15 g2;have O15:=Lib.hid (O14.out.below b15);have Y15:=Lib.hid (blk_below Y14.out b15);have Z15:=Lib.hid (blk_below Z14.out b15);have B15:=Lib.hid (below_next B14.out B14.out.size b15);obtain ⟨z,z0,zf⟩:=R_cellN O15.out.slots k (by have:=HL2A.out;omega);clear hb15 b15))
    have O16:=Lib.hid (O15.out.slot k (leastN b.f0 (insAt k f b.f1) (insAt k (-1) b.f2) k f))
    have Y16:=Lib.hid (blk_far Y15.out (p:=⟨g13,k,none⟩) (by have:=HNE.out;simp;omega) (.int .i64 (leastN b.f0 (insAt k f b.f1) (insAt k (-1) b.f2) k f)))
    have Z16:=Lib.hid (blk_far Z15.out (p:=⟨g13,k,none⟩) (by have:=HNZ.out;simp;omega) (.int .i64 (leastN b.f0 (insAt k f b.f1) (insAt k (-1) b.f2) k f)))
    have B16:=Lib.hid (B15.out.setCell (p:=⟨g13,k,none⟩) (by show w.heap.size≤g13;omega) (.int .i64 (leastN b.f0 (insAt k f b.f1) (insAt k (-1) b.f2) k f)))
    have hadd:addN b f=⟨b.f0,insAt k f b.f1,(insAt k (-1) b.f2).set k (leastN b.f0 (insAt k f b.f1) (insAt k (-1) b.f2) k f)⟩:=by
     unfold addN
     rw [HPK.out,leastAt_some HXK.out]
    have HADD:=Lib.hid hadd
    clear hadd O14 Y14 Z14 B14 O15 Y15 Z15 B15 g0 g1 g2 z0 zf
    have y0:=(blk_cell Y16.out 0).trans rfl
    have y1:=(blk_cell Y16.out 1).trans rfl
    have y2:=(blk_cell Y16.out 2).trans rfl
    have cr0:=(blk_cell Z16.out 0).trans rfl
    have cr1:=(blk_cell Z16.out 1).trans rfl
    have cr2:=(blk_cell Z16.out 2).trans rfl
    have pr0:=blk_frozen Z16.out 0
    have pr1:=blk_frozen Z16.out 1
    have pr2:=blk_frozen Z16.out 2
    have s0:=blk_set Z16.out 0 (.slice B0 b.f0.length d0)
    have s1:=blk_set s0 1 (.slice A11 (insAt k f b.f1).length c11)
    have s2:=Lib.hid (blk_set s1 2 (.slice (some ⟨g13,0,none⟩) (insAt k (-1) b.f2).length c13))
    clear s0 s1
    go_wp2
    refine bodyPost_ret (results_ct rfl _ _ (w.heap.size+2) 33 #[.slice B0 b.f0.length d0, .slice A11 (insAt k f b.f1).length c11, .slice (some ⟨g13,0,none⟩) (insAt k (-1) b.f2).length c13] (0,0) _ rfl s2.out Tryz.underlying33 rfl (by kernel_rfl)) rfl ?_
    obtain ⟨h1,h2⟩:=(O16.out.lower (base':=w.heap.size) (by omega)).res B16.out Z16.out (by omega) (.slice B0 b.f0.length d0) (.slice A11 (insAt k f b.f1).length c11) (.slice (some ⟨g13,0,none⟩) (insAt k (-1) b.f2).length c13)
    rw [addR_0 HF.out HFL.out (by have:=HA.out;omega) (by have:=H8.out;omega)]
    rw [← HADD.out] at h1
    exact ⟨_,_,_,rfl,h1,h2⟩
theorem flightsB_one (f:Flight):flightsB [f]=flightB f:=by
 simp [flightsB,linkB,List.all_cons,List.all_nil]
theorem zip_ins_nodup {α:Type} (xs:List α) (x:α) (k:Nat):((xs.zipIdx.take k++[(x,xs.length)]++xs.zipIdx.drop k).map Prod.snd).Nodup:=by
 have hp:((xs.zipIdx.take k++[(x,xs.length)]++xs.zipIdx.drop k).map Prod.snd).Perm (xs.length :: xs.zipIdx.map Prod.snd):=by
  rw [List.append_assoc,List.singleton_append]
  have h:=(List.perm_middle (a:=(x,xs.length)) (l₁:=xs.zipIdx.take k) (l₂:=xs.zipIdx.drop k)).map Prod.snd
  rw [List.take_append_drop] at h
  exact h
 refine hp.nodup_iff.2 (List.nodup_cons.2 ⟨?_,zip_nodup xs⟩)
 rw [List.zipIdx_map_snd]
 simp [List.mem_range']
theorem zip_ins_fst {α:Type} (xs:List α) (x:α) (k:Nat):(xs.zipIdx.take k++[(x,xs.length)]++xs.zipIdx.drop k).map Prod.fst=insAt k x xs:=by
 rw [List.map_append,List.map_append,List.map_take,List.map_drop,List.zipIdx_map_fst]
 rfl
theorem R_frz {β:Type} {d':Kd β} {e base n c:Nat} {ok:Nat→Prop} {W:World} {A:Option Addr} {ys:List β} (h:d'.R e W base ok (.slice A n c) ys):n=ys.length∧n≤c∧(frz d' W base (fun k=>ok k∧some k≠(Value.slice A n c).ownBlock)).C W A ys.length ys:=by
 obtain ⟨h0,ho⟩:=h
 obtain ⟨A',c',hv,hle,hr⟩:=ho.reads
 injection hv with h1 h2 h3
 subst h1
 subst h3
 exact ⟨h2,by omega,hr⟩
theorem C_dropB {β:Type} {k:Kd β} {W:World} {A:Option Addr} {ys:List β} {j c:Nat} (h:k.C W A ys.length ys) (hj:j≤ys.length) (hc:ys.length≤c):k.C W (if c=j then A else A.map (·.add (j*k.sz))) (ys.length-j) (ys.drop j):=by
 have:=Kd.C_drop h hj hc
 rwa [List.length_drop] at this
theorem C_oneF {w:World} {g:Nat} {f:Flight} {A3:Option Addr} {c3:Nat} (h:w.heap[g]? = some (.cells #[.string f.f0, .int .i64 f.f1, .int .i64 f.f2, .slice A3 f.f3.length c3] 45 (0,0))) (hr:Kd.C k52 w A3 f.f3.length f.f3) (hc:f.f3.length≤c3):Kd.C k45 w (some ⟨g,0,none⟩) 1 [f]:=by
 refine ⟨rfl,by decide,fun _=>⟨_,rfl,fun j p hj => ?_⟩⟩
 have hj0:j=0:=by have:=some_lt hj;simpa using this
 subst hj0
 obtain rfl:f=p:=by simpa using hj
 refine ⟨_,rfl,k45_mk w f hc hr,fun i u hi => ?_⟩
 have hi4:i=0∨i=1∨i=2∨i=3:=by have:=some_lt hi;simp at this;omega
 rcases hi4 with rfl | rfl | rfl | rfl <;> exact (blk_cell h _).trans hi
set_option maxRecDepth 100000 in
set_option maxHeartbeats 8000000 in
theorem spec_flowAdd_any (A0:Option Addr) (c0:Nat) (A1:Option Addr) (c1:Nat) (A2:Option Addr) (c2:Nat) (b:Book) (f:Flight) (A3:Option Addr) (c3:Nat) (w:World) (hr0:Kd.C k80 w A0 b.f0.length b.f0) (hr1:Kd.C k45 w A1 b.f1.length b.f1) (hr2:Kd.C (Kd.int .i64) w A2 b.f2.length b.f2) (hr3:Kd.C k52 w A3 f.f3.length f.f3) (hc3:f.f3.length≤c3) :
  Calls Tryz.prog 23 #[.agg #[.slice A0 b.f0.length c0, .slice A1 b.f1.length c1, .slice A2 b.f2.length c2], .agg #[.string f.f0, .int .i64 f.f1, .int .i64 f.f2, .slice A3 f.f3.length c3]] w fun e w'=>∃ v0 v1 v2,e = .returned (.tuple #[.agg #[v0,v1,v2], .int .i64 (addR b f).2])∧OwnB w' w.heap.size v0 v1 v2 (addR b f).1∧Below w.heap.size w w':=by
 obtain ⟨W,hW⟩:∃ W,W=((w.alloc (.cells #[.slice A0 b.f0.length c0, .slice A1 b.f1.length c1, .slice A2 b.f2.length c2] 33)).alloc (.cells #[.string f.f0, .int .i64 f.f1, .int .i64 f.f2, .slice A3 f.f3.length c3] 45)).alloc (.cells #[.slice none 0 0, .slice none 0 0, .slice none 0 0] 33):=⟨_,rfl⟩
 have hba:Below w.heap.size w W:=by rw [hW];exact below_alloc (below_alloc (below_alloc (Below.refl _ _) _) _) _
 have X0:W.heap[w.heap.size]? = some (.cells #[.slice A0 b.f0.length c0, .slice A1 b.f1.length c1, .slice A2 b.f2.length c2] 33 (0,0)):=by rw [hW];exact blk_alloc (blk_alloc (blk_new w _) _) _
 have F0:W.heap[w.heap.size+1]? = some (.cells #[.string f.f0, .int .i64 f.f1, .int .i64 f.f2, .slice A3 f.f3.length c3] 45 (0,0)):=by
  have t:=blk_new (w.alloc (.cells #[.slice A0 b.f0.length c0, .slice A1 b.f1.length c1, .slice A2 b.f2.length c2] 33)) (.cells #[.string f.f0, .int .i64 f.f1, .int .i64 f.f2, .slice A3 f.f3.length c3] 45)
  rw [World.size_alloc] at t
  rw [hW]
  exact blk_alloc t _
 have Z0:W.heap[w.heap.size+2]? = some (.cells #[.slice none 0 0, .slice none 0 0, .slice none 0 0] 33 (0,0)):=by
  have t:=blk_new ((w.alloc (.cells #[.slice A0 b.f0.length c0, .slice A1 b.f1.length c1, .slice A2 b.f2.length c2] 33)).alloc (.cells #[.string f.f0, .int .i64 f.f1, .int .i64 f.f2, .slice A3 f.f3.length c3] 45)) (.cells #[.slice none 0 0, .slice none 0 0, .slice none 0 0] 33)
  rw [World.size_alloc,World.size_alloc] at t
  rw [hW]
  exact t
 have zW:W.heap.size=w.heap.size+3:=by rw [hW];simp
 have QF:=Lib.hid (spec_bookOk_any A0 c0 b.f0 A1 c1 b.f1 A2 c2 b.f2 W (Kd.C_below hr0 hba) (Kd.C_below hr1 hba) (Kd.C_below hr2 hba))
 have f0:=(blk_cell X0 0).trans rfl
 have f1:=(blk_cell X0 1).trans rfl
 have f2:=(blk_cell X0 2).trans rfl
 go_enter Tryz.func23,Tryz.ntmps23
 go_wp2_with (fail)
 rw [← hW]
 refine QF.out.mono ?_
 rintro e w3 ⟨rfl,hb3⟩
 have X3:=Lib.hid (blk_below X0 hb3)
 have F3:=Lib.hid (blk_below F0 hb3)
 have Z3:=Lib.hid (blk_below Z0 hb3)
 have B3:=Lib.hid (below_next hba hba.size hb3)
 have z3:w.heap.size+3≤w3.heap.size:=by have:=hb3.size;omega
 clear QF f0 f1 f2 X0 F0 Z0 hba hW zW hb3
 have f0:=(blk_cell X3.out 0).trans rfl
 have f1:=(blk_cell X3.out 1).trans rfl
 have f2:=(blk_cell X3.out 2).trans rfl
 cases hfit:fitsB b.f0 b.f1 b.f2 with
 | false =>
  have cr0:=(blk_cell Z3.out 0).trans rfl
  have cr1:=(blk_cell Z3.out 1).trans rfl
  have cr2:=(blk_cell Z3.out 2).trans rfl
  have pr0:=blk_frozen Z3.out 0
  have pr1:=blk_frozen Z3.out 1
  have pr2:=blk_frozen Z3.out 2
  have s0:=blk_set Z3.out 0 (.slice none 0 0)
  have s1:=blk_set s0 1 (.slice none 0 0)
  have s2:=Lib.hid (blk_set s1 2 (.slice none 0 0))
  have HF:=Lib.hid hfit
  clear s0 s1 hfit
  go_wp2
  refine bodyPost_ret (results_ct rfl _ _ (w.heap.size+2) 33 #[.slice none 0 0, .slice none 0 0, .slice none 0 0] (0,0) _ rfl s2.out Tryz.underlying33 rfl (by kernel_rfl)) rfl ?_
  obtain ⟨h1,h2⟩:=(emptyO w3 w.heap.size).res B3.out Z3.out (by omega) (.slice none 0 0) (.slice none 0 0) (.slice none 0 0)
  rw [addR_1 HF.out]
  exact ⟨_,_,_,rfl,h1,h2⟩
 | true =>
 obtain ⟨l0,l1,l2,l3⟩:=fits_small hfit
 have hlen:=(slotsB_parts (fitsB_parts hfit).2.1).2.1
 have hl8:=(flightsB_parts (slotsB_parts (fitsB_parts hfit).2.1).1).1
 have hlv:=C_len hr3
 have HF:=Lib.hid hfit
 have HR1:=Lib.hid hr1
 have HR3:=Lib.hid hr3
 have QC:=Lib.hid (spec_copy_any A0 c0 A1 c1 A2 c2 b w3 (Kd.C_below hr0 B3.out) (Kd.C_below hr1 B3.out) (Kd.C_below hr2 B3.out) l0 l1 l2 l3)
 have HL:=Lib.hid hlen
 have HL8:=Lib.hid hl8
 have HLV:=Lib.hid hlv
 have HC3:=Lib.hid hc3
 clear l0 l1 l2 l3 hfit hr0 hr1 hr2 hr3 hlen hl8 hlv hc3
 go_wp2_with (fail)
 refine QC.out.mono ?_
 rintro e w4 ⟨v0,v1,v2,rfl,hO4,hb4⟩
 obtain ⟨B0,d0,B1,d1,B2,d2,rfl,rfl,rfl,_,_,_⟩:=hO4.form
 have z4:=hb4.size
 have hb5:Below w4.heap.size w4 (w4.alloc (.cells #[.slice B0 b.f0.length d0, .slice B1 b.f1.length d1, .slice B2 b.f2.length d2] 33)):=below_alloc (Below.refl _ _) _
 have B4:=below_next B3.out B3.out.size hb4
 have B5:=Lib.hid (below_next B4 B4.size hb5)
 have X5:=Lib.hid (blk_below (blk_below X3.out hb4) hb5)
 have F5:=Lib.hid (blk_below (blk_below F3.out hb4) hb5)
 have Z5:=Lib.hid (blk_below (blk_below Z3.out hb4) hb5)
 have O5:=Lib.hid (hO4.below hb5)
 have Y5:=Lib.hid (blk_new w4 (.cells #[.slice B0 b.f0.length d0, .slice B1 b.f1.length d1, .slice B2 b.f2.length d2] 33))
 have zz:(w4.alloc (.cells #[.slice B0 b.f0.length d0, .slice B1 b.f1.length d1, .slice B2 b.f2.length d2] 33)).heap.size=w4.heap.size+1:=by simp
 clear hO4 hb4 hb5 B4 X3 F3 Z3 QC f0 f1 f2
 have f0:=(blk_cell F5.out 0).trans rfl
 have f1:=(blk_cell F5.out 1).trans rfl
 have f2:=(blk_cell F5.out 2).trans rfl
 have f3:=(blk_cell F5.out 3).trans rfl
 have hb5a:Below (w4.alloc (.cells #[.slice B0 b.f0.length d0, .slice B1 b.f1.length d1, .slice B2 b.f2.length d2] 33)).heap.size (w4.alloc (.cells #[.slice B0 b.f0.length d0, .slice B1 b.f1.length d1, .slice B2 b.f2.length d2] 33)) ((w4.alloc (.cells #[.slice B0 b.f0.length d0, .slice B1 b.f1.length d1, .slice B2 b.f2.length d2] 33)).alloc (.cells #[.string f.f0, .int .i64 f.f1, .int .i64 f.f2, .slice A3 f.f3.length c3] 45)):=below_alloc (Below.refl _ _) _
 have B5a:=Lib.hid (below_next B5.out B5.out.size hb5a)
 have X5a:=Lib.hid (blk_below X5.out hb5a)
 have F5a:=Lib.hid (blk_below F5.out hb5a)
 have Z5a:=Lib.hid (blk_below Z5.out hb5a)
 have O5a:=Lib.hid (O5.out.below hb5a)
 have Y5a:=Lib.hid (blk_below Y5.out hb5a)
 have z5a:=hb5a.size
 have hone:=blk_new (w4.alloc (.cells #[.slice B0 b.f0.length d0, .slice B1 b.f1.length d1, .slice B2 b.f2.length d2] 33)) (.cells #[.string f.f0, .int .i64 f.f1, .int .i64 f.f2, .slice A3 f.f3.length c3] 45)
 rw [zz] at hone
 have HONE:=Lib.hid (C_oneF hone (Kd.C_below HR3.out B5a.out) HC3.out)
 clear hone
 go_wp2_with (fail)
 refine (spec_flightsOk_any _ 1 [f] _ HONE.out (show (1:Nat)≤9223372036854775807 by decide)).mono ?_
 rintro e w6 ⟨rfl,hb6⟩
 rw [flightsB_one]
 have B6:=Lib.hid (below_next B5a.out B5a.out.size hb6)
 have X6:=Lib.hid (blk_below X5a.out hb6)
 have F6:=Lib.hid (blk_below F5a.out hb6)
 have Z6:=Lib.hid (blk_below Z5a.out hb6)
 have O6:=Lib.hid (O5a.out.below hb6)
 have Y6:=Lib.hid (blk_below Y5a.out hb6)
 have z6:=hb6.size
 have z6:w4.heap.size+1≤w6.heap.size:=by rw [zz] at z5a;omega
 clear hb5a hb6 HONE X5 F5 Z5 O5 Y5 B5 X5a F5a Z5a O5a Y5a B5a z5a f0 f1 f2 f3 zz
 have y0:=(blk_cell Y6.out 0).trans rfl
 have y1:=(blk_cell Y6.out 1).trans rfl
 have y2:=(blk_cell Y6.out 2).trans rfl
 cases hfl:flightB f with
 | false =>
  have HFL:=Lib.hid hfl
  clear hfl
  have cr0:=(blk_cell Z6.out 0).trans rfl
  have cr1:=(blk_cell Z6.out 1).trans rfl
  have cr2:=(blk_cell Z6.out 2).trans rfl
  have pr0:=blk_frozen Z6.out 0
  have pr1:=blk_frozen Z6.out 1
  have pr2:=blk_frozen Z6.out 2
  have s0:=blk_set Z6.out 0 (.slice B0 b.f0.length d0)
  have s1:=blk_set s0 1 (.slice B1 b.f1.length d1)
  have s2:=Lib.hid (blk_set s1 2 (.slice B2 b.f2.length d2))
  clear s0 s1
  go_wp2
  refine bodyPost_ret (results_ct rfl _ _ (w.heap.size+2) 33 #[.slice B0 b.f0.length d0, .slice B1 b.f1.length d1, .slice B2 b.f2.length d2] (0,0) _ rfl s2.out Tryz.underlying33 rfl (by kernel_rfl)) rfl ?_
  obtain ⟨h1,h2⟩:=(O6.out.lower (base':=w.heap.size) (by omega)).res B6.out Z6.out (by omega) (.slice B0 b.f0.length d0) (.slice B1 b.f1.length d1) (.slice B2 b.f2.length d2)
  rw [addR_2 HF.out HFL.out]
  exact ⟨_,_,_,rfl,h1,h2⟩
 | true =>
 have HFL:=Lib.hid hfl
 clear hfl y0 y1 y2
 have x0:=(blk_cell X6.out 0).trans rfl
 have x1:=(blk_cell X6.out 1).trans rfl
 have x2:=(blk_cell X6.out 2).trans rfl
 have f0:=(blk_cell F6.out 0).trans rfl
 go_wp2_with (fail)
 refine (spec_at_any _ A1 c1 b.f1 _ f.f0 _ (Kd.C_below HR1.out B6.out)).mono ?_
 rintro e w7 ⟨rfl,hb7⟩
 have B7:=Lib.hid (below_next B6.out B6.out.size hb7)
 have X7:=Lib.hid (blk_below X6.out hb7)
 have F7:=Lib.hid (blk_below F6.out hb7)
 have Z7:=Lib.hid (blk_below Z6.out hb7)
 have O7:=Lib.hid (O6.out.below hb7)
 have Y7:=Lib.hid (blk_below Y6.out hb7)
 have z7:=hb7.size
 clear hb7 X6 F6 Z6 O6 Y6 B6 f0 x0 x1 x2
 have y0:=(blk_cell Y7.out 0).trans rfl
 have y1:=(blk_cell Y7.out 1).trans rfl
 have y2:=(blk_cell Y7.out 2).trans rfl
 by_cases ha:0≤atB b.f1 f.f0
 ·have HA:=Lib.hid ha
  have e1:decide (atB b.f1 f.f0 ≥ 0)=true:=decide_eq_true ha
  have e2:decide (0≤atB b.f1 f.f0)=true:=decide_eq_true ha
  clear ha
  have cr0:=(blk_cell Z7.out 0).trans rfl
  have cr1:=(blk_cell Z7.out 1).trans rfl
  have cr2:=(blk_cell Z7.out 2).trans rfl
  have pr0:=blk_frozen Z7.out 0
  have pr1:=blk_frozen Z7.out 1
  have pr2:=blk_frozen Z7.out 2
  have s0:=blk_set Z7.out 0 (.slice B0 b.f0.length d0)
  have s1:=blk_set s0 1 (.slice B1 b.f1.length d1)
  have s2:=Lib.hid (blk_set s1 2 (.slice B2 b.f2.length d2))
  clear s0 s1
  go_wp2
  refine bodyPost_ret (results_ct rfl _ _ (w.heap.size+2) 33 #[.slice B0 b.f0.length d0, .slice B1 b.f1.length d1, .slice B2 b.f2.length d2] (0,0) _ rfl s2.out Tryz.underlying33 rfl (by kernel_rfl)) rfl ?_
  obtain ⟨h1,h2⟩:=(O7.out.lower (base':=w.heap.size) (by omega)).res B7.out Z7.out (by omega) (.slice B0 b.f0.length d0) (.slice B1 b.f1.length d1) (.slice B2 b.f2.length d2)
  rw [addR_3 HF.out HFL.out HA.out]
  exact ⟨_,_,_,rfl,h1,h2⟩
 have HA:=Lib.hid ha
 have e1:decide (atB b.f1 f.f0 ≥ 0)=false:=decide_eq_false ha
 have e2:decide (0≤atB b.f1 f.f0)=false:=decide_eq_false ha
 clear ha
 have x1:=(blk_cell X7.out 1).trans rfl
 by_cases h8:8≤b.f1.length
 ·have H8:=Lib.hid h8
  have e3:decide ((8:Int)≤(b.f1.length:Int))=true:=decide_eq_true (by omega)
  have e4:decide ((b.f1.length:Int) ≥ 8)=true:=decide_eq_true (by omega)
  clear h8
  have cr0:=(blk_cell Z7.out 0).trans rfl
  have cr1:=(blk_cell Z7.out 1).trans rfl
  have cr2:=(blk_cell Z7.out 2).trans rfl
  have pr0:=blk_frozen Z7.out 0
  have pr1:=blk_frozen Z7.out 1
  have pr2:=blk_frozen Z7.out 2
  have s0:=blk_set Z7.out 0 (.slice B0 b.f0.length d0)
  have s1:=blk_set s0 1 (.slice B1 b.f1.length d1)
  have s2:=Lib.hid (blk_set s1 2 (.slice B2 b.f2.length d2))
  clear s0 s1
  go_wp2
  refine bodyPost_ret (results_ct rfl _ _ (w.heap.size+2) 33 #[.slice B0 b.f0.length d0, .slice B1 b.f1.length d1, .slice B2 b.f2.length d2] (0,0) _ rfl s2.out Tryz.underlying33 rfl (by kernel_rfl)) rfl ?_
  obtain ⟨h1,h2⟩:=(O7.out.lower (base':=w.heap.size) (by omega)).res B7.out Z7.out (by omega) (.slice B0 b.f0.length d0) (.slice B1 b.f1.length d1) (.slice B2 b.f2.length d2)
  rw [addR_4 HF.out HFL.out (by have:=HA.out;omega) H8.out]
  exact ⟨_,_,_,rfl,h1,h2⟩
 have H8:=Lib.hid h8
 have e3:decide ((8:Int)≤(b.f1.length:Int))=false:=decide_eq_false (by omega)
 have e4:decide ((b.f1.length:Int) ≥ 8)=false:=decide_eq_false (by omega)
 clear h8
 go_wp2
 clear x1 y0 y1 y2 e1 e2 e3 e4
 go_loopw [7] (fun vk wr=>∃ k:Nat,vk = .int .i64 k∧k≤b.f1.length∧Hid (placeB b.f1 f.f0=k+cntQ (fun g=>lessB g.f0 f.f0) (b.f1.drop k))∧Hid (Below w7.heap.size w7 wr)) (fun vk _=>b.f1.length-(intOf vk).toNat)
 case atStart=>exact ⟨0,rfl,Nat.zero_le _,by show _=_;simp [placeB],Below.refl _ _⟩
 case round =>
  obtain ⟨k,rfl,hk,HPL,HB⟩:=hrel
  have hk8:=HL8.out
  go_upto_region 11 with (fail)
  go_cut [45] (fun s45 wx=>s45 = .bool (decide (k<placeB b.f1 f.f0))∧Hid (Below w7.heap.size w7 wx))
  case first =>
   have y1:=(blk_cell (blk_below Y7.out HB.out) 1).trans rfl
   have f0:=(blk_cell (blk_below F7.out HB.out) 0).trans rfl
   by_cases hlt:k<b.f1.length
   ·have j1:(k:Int)<(b.f1.length:Int):=by omega
    obtain ⟨ad,g,G3,gc3,rfl,hg,g0,g1,g2,g3,_,_⟩:=flightAt (Kd.C_below (Kd.S_reads' O7.out.flights).2.2 HB.out) k hlt
    have hst:=place_step hg HPL.out
    cases hq:lessB g.f0 f.f0 with
    | true =>
     rw [hq,if_pos rfl] at hst
     have hd:decide (k<placeB b.f1 f.f0)=true:=decide_eq_true (by omega)
     have hbl:Op.bytesLess g.f0.toList f.f0.toList=true:=hq
     have HD:=Lib.hid hd
     clear hst hd hg hq
     go_region_held3 (fun W'=>W'.cell? ⟨w4.heap.size,1,none⟩=some (.slice (some ad) b.f1.length d1)∧W'.cell? ⟨w.heap.size+1,0,none⟩=some (.string f.f0)∧W'.cell? (ad.add (k*4))=some (.string g.f0)) (go_keep) (fail)
     all_goals
      go_wp2_with (fail)
      go_meet
      exact ⟨by rw [HD.out],pw_below_drewN HB.out 1⟩
    | false =>
     rw [hq,if_neg (by decide)] at hst
     have hd:decide (k<placeB b.f1 f.f0)=false:=decide_eq_false (by omega)
     have hbl:Op.bytesLess g.f0.toList f.f0.toList=false:=hq
     have HD:=Lib.hid hd
     clear hst hd hg hq
     go_region_held3 (fun W'=>W'.cell? ⟨w4.heap.size,1,none⟩=some (.slice (some ad) b.f1.length d1)∧W'.cell? ⟨w.heap.size+1,0,none⟩=some (.string f.f0)∧W'.cell? (ad.add (k*4))=some (.string g.f0)) (go_keep) (fail)
     all_goals
      go_wp2_with (fail)
      go_meet
      exact ⟨by rw [HD.out],pw_below_drewN HB.out 1⟩
   ·have j1:¬ (k:Int)<(b.f1.length:Int):=by omega
    have hst:=place_end (by omega) HPL.out
    have hd:decide (k<placeB b.f1 f.f0)=false:=decide_eq_false (by omega)
    have HD:=Lib.hid hd
    clear hst hd
    go_quiet (fail)
    all_goals
     go_wp2_with (fail)
     go_meet
     exact ⟨by rw [HD.out],pw_below_drewN HB.out _⟩
  case rest =>
   clear HB
   obtain ⟨rfl,HB⟩:=hcut
   by_cases hkp:k<placeB b.f1 f.f0
   ·have hd:decide (k<placeB b.f1 f.f0)=true:=decide_eq_true hkp
    have hst:k<b.f1.length∧placeB b.f1 f.f0=k+1+cntQ (fun g=>lessB g.f0 f.f0) (b.f1.drop (k+1)):=by
     by_cases hlt:k<b.f1.length
     ·have:=place_step (List.getElem?_eq_getElem hlt) HPL.out
      split at this
      ·exact ⟨hlt,this⟩
      ·omega
     ·have:=place_end (by omega) HPL.out
      omega
    have HST:=Lib.hid hst.2
    have hlt:=hst.1
    rw [hd]
    clear hst hd
    go_wp2
    go_roundw
    case rel=>exact ⟨k+1,by go_num,hlt,HST,HB⟩
    case measure=>simp [intOf];omega
   ·have hd:decide (k<placeB b.f1 f.f0)=false:=decide_eq_false hkp
    have HPK:Hid (placeB b.f1 f.f0=k):=by show _=_;have:=HPL.out;omega
    rw [hd]
    clear hd HPL hkp
    have hvl:=(visitsB_parts (flightB_parts HFL.out).2.2.2.2.2).2.1
    have B8:=Lib.hid (below_next B7.out B7.out.size HB.out)
    have F8:=Lib.hid (blk_below F7.out HB.out)
    have Z8:=Lib.hid (blk_below Z7.out HB.out)
    have O8:=Lib.hid (O7.out.below HB.out)
    have Y8:=Lib.hid (blk_below Y7.out HB.out)
    have z8:=HB.out.size
    clear HB O7 Y7 Z7 F7 B7 X7
    have hvl1:f.f3.length≤1000:=by omega
    have hk8:=HL8.out
    obtain ⟨tg,htg,hR⟩:=Kd.S_tag (Kd.S_mono (ok':=fun j=>w3.heap.size≤j∧j<wc.heap.size) (Kd.S_bound O8.out.flights) (fun j hj=>⟨hj.2.1,hj.2.2.1⟩)) b.f1.length (fun j=>wc.heap.size≤j) (fun j h1 h2=>by have:=h2.2;omega)
    obtain ⟨hz13,hd1,hFZ⟩:=R_frz hR
    clear hz13
    have HFZ:=Lib.hid hFZ
    have HTG:=Lib.hid htg
    clear hR hFZ htg
    have HT:=Lib.hid (C_takeA HFZ.out (show k≤b.f1.zipIdx.length by rw [List.length_zipIdx];exact hk))
    have hdr:=C_dropB HFZ.out (show k≤b.f1.zipIdx.length by rw [List.length_zipIdx];exact hk) (show b.f1.zipIdx.length≤d1 by rw [List.length_zipIdx];exact hd1)
    rw [List.length_zipIdx] at hdr
    obtain ⟨A61,h61⟩:∃ A,(if d1=k then B1 else Option.map (fun x=>x.add (k*4)) B1)=A:=⟨_,rfl⟩
    have HD:Hid ((frz (Kd.tag tg k45) wc w3.heap.size (fun j=>(w3.heap.size≤j∧j<wc.heap.size)∧some j≠(Value.slice B1 b.f1.length d1).ownBlock)).C wc A61 (b.f1.length-k) (b.f1.zipIdx.drop k)):=by rw [← h61];exact hdr
    clear hdr
    have HX1:Hid ((Kd.tag tg k45).R 45 (wc.alloc (.cells #[] 45)).drew w3.heap.size (fun _=>True) (.slice (some ⟨wc.heap.size,0,none⟩) 0 0) []):=Kd.R_drewN (Kd.R_lower (R_madeF (Kd.tag tg k45) wc 45 (Nat.succ_pos 3)) (by omega)) 1
    have BX1:Hid (Below wc.heap.size wc (wc.alloc (.cells #[] 45)).drew):=pw_below_drewN (below_alloc (Below.refl _ _) _) 1
    have b3:Hid (w3.heap.size≤wc.heap.size):=by show _≤_;omega
    have t1:(k:Int)≤(d1:Int):=by omega
    have t4:(k:Int)≤(b.f1.length:Int):=by omega
    have y1:=(blk_cell Y8.out 1).trans rfl
    have f0:=(blk_cell F8.out 0).trans rfl
    have f1:=(blk_cell F8.out 1).trans rfl
    have f2:=(blk_cell F8.out 2).trans rfl
    have f3:=(blk_cell F8.out 3).trans rfl
    have hS0:Hid (wc.cell? ⟨w4.heap.size,1,none⟩=some (.slice B1 b.f1.length d1)∧wc.cell? ⟨w.heap.size+1,0,none⟩=some (.string f.f0)∧wc.cell? ⟨w.heap.size+1,1,none⟩=some (.int .i64 f.f1)∧wc.cell? ⟨w.heap.size+1,2,none⟩=some (.int .i64 f.f2)∧wc.cell? ⟨w.heap.size+1,3,none⟩=some (.slice A3 f.f3.length c3)):=⟨y1,f0,f1,f2,f3⟩
    have KS:Hid (∀ V,Below wc.heap.size wc V→V.cell? ⟨w4.heap.size,1,none⟩=some (.slice B1 b.f1.length d1)∧V.cell? ⟨w.heap.size+1,0,none⟩=some (.string f.f0)∧V.cell? ⟨w.heap.size+1,1,none⟩=some (.int .i64 f.f1)∧V.cell? ⟨w.heap.size+1,2,none⟩=some (.int .i64 f.f2)∧V.cell? ⟨w.heap.size+1,3,none⟩=some (.slice A3 f.f3.length c3)):=fun V h=>⟨pw_cell_below h hS0.out.1,pw_cell_below h hS0.out.2.1,pw_cell_below h hS0.out.2.2.1,pw_cell_below h hS0.out.2.2.2.1,pw_cell_below h hS0.out.2.2.2.2⟩
    clear hS0 y1 f0 f1 f2 f3
    go_upto_region 13 with (fail)
    refine start_ (n:=17) (S:=fun w'=>w'.cell? ⟨w4.heap.size,1,none⟩=some (.slice B1 b.f1.length d1)∧w'.cell? ⟨w.heap.size+1,0,none⟩=some (.string f.f0)∧w'.cell? ⟨w.heap.size+1,1,none⟩=some (.int .i64 f.f1)∧w'.cell? ⟨w.heap.size+1,2,none⟩=some (.int .i64 f.f2)∧w'.cell? ⟨w.heap.size+1,3,none⟩=some (.slice A3 f.f3.length c3)) (ds:=[16]) #[false,false,false,false,false,false,false,false,false,false,false,false,false,false,false,false,false] (by kernel_rfl) rfl rfl (KS.out _ (pw_below_drewN (Below.refl _ _) 1)) (fun hHeld => ?_)
    refine pureA 1 (h := ?_)
    refine pureA 3 (h := ?_)
    refine pureA 10 (h := ?_)
    refine pureA 12 (h := ?_)
    refine takeA 2 hHeld (h := ?_)
    refine takeA 11 hHeld (h := ?_)
    refine takeA 6 hHeld (h := ?_)
    refine pureA 4 (h := ?_)
    refine pureA 13 (h := ?_)
    refine oneA 0 (h:=fun K hK => ?_)
    go_simp
    refine hK.out _ _ (KS.out _ BX1.out) (fun hHeld => ?_)
    clear hK K
    refine oneA 5 (h:=fun K hK => ?_)
    refine Kd.R_append_rows_step (Kd.tag tg k45) (Rr:=(frz (Kd.tag tg k45) wc w3.heap.size (fun j=>(w3.heap.size≤j∧j<wc.heap.size)∧some j≠(Value.slice B1 b.f1.length d1).ownBlock)).K wc) (w0:=wc) w3.heap.size (by rfl) (.tmp 48) (.tmp 52) 30 45 (.agg #[.string ByteArray.empty, .int .i64 0, .int .i64 0, .slice none 0 0]) 56 (by rfl) Tryz.underlying30 infoFlight rfl (Nat.succ_pos 3) (by decide) (.slice (some ⟨wc.heap.size,0,none⟩) 0 0) [] (b.f1.zipIdx.take k) B1 k d1 (fun _=>True) (fun j=>j<wc.heap.size) (by rfl) (by rfl) HX1.out (Kd.C_below HT.out BX1.out) (fun x cs h=>frz_M2 BX1.out h) (fun j hj=>⟨trivial,fun e=>by have:=own_at e.symm;omega⟩) (fun _ _=>trivial) (BX1.out.mono b3.out) (Nat.le_trans b3.out BX1.out.size) (by have:=HL8.out;simp;omega) ?_
    intro v10 w10 ho hb hg hat
    rw [List.nil_append] at ho
    obtain ⟨A10,c10,rfl⟩:=Kd.R_slice ho
    rw [lenZ hk] at ho hat ⊢
    have B10:Hid (Below wc.heap.size wc w10):=BX1.out.grown hg BX1.out.size (fun q hq=>(by have:=own_at hq;omega))
    have N10:Hid (∀ j,(Value.slice A10 k c10).ownBlock=some j→wc.heap.size≤j):=own_next hat (fun j hj=>(by have:=own_at hj;omega)) BX1.out.size
    have M10:Hid (∀ j,(Value.slice A10 k c10).ownBlock=some j→j<w10.heap.size):=fun j hj=>((Kd.R_bound ho).1 j hj).2.2.1
    have H10:=Lib.hid ho
    clear ho hb hg hat
    refine hK.out _ _ (KS.out _ B10.out) (fun hHeld => ?_)
    clear hK K
    refine oneA 7 (h:=fun K hK => ?_)
    go_simp
    refine (l1Flight_any f A3 c3 _ (Kd.C_below HR3.out (below_next B8.out B8.out.size B10.out)) HC3.out hvl1).mono ?_
    rintro e w11 ⟨A11,c11,rfl,hv,hb⟩
    go_simp
    have z11:=hb.size
    have H11:=Lib.hid (Kd.R_below H10.out hb)
    have B11:=Lib.hid (below_next B10.out B10.out.size hb)
    have hm:(Kd.tag tg k45).M w11 w3.heap.size (fun j=>w10.heap.size≤j) (f,b.f1.length) [.string f.f0, .int .i64 f.f1, .int .i64 f.f2, .slice A11 f.f3.length c11]:=k45_mkM _ _ _ f (Kd.R_lower (Kd.R_mono (Kd.R_bound hv) (fun j hj=>⟨hj.2.1,HTG.out j (Nat.le_trans B10.out.size hj.2.1)⟩)) (Nat.le_trans b3.out B10.out.size))
    have HM:=Lib.hid hm
    clear hm hv hb
    refine hK.out _ _ (KS.out _ B11.out) (fun hHeld => ?_)
    clear hK K
    refine oneA 8 (h:=fun K hK => ?_)
    go_simp
    refine hK.out _ _ (KS.out _ (below_next B11.out B11.out.size (below_alloc (Below.refl _ _) _))) (fun hHeld => ?_)
    clear hK K
    refine oneA 9 (h:=fun K hK => ?_)
    refine Kd.R_append_step (Kd.tag tg k45) (w0:=wc) w3.heap.size (by rfl) (.tmp 53) (.tmp 56) 30 45 (.agg #[.string ByteArray.empty, .int .i64 0, .int .i64 0, .slice none 0 0]) 56 (by rfl) Tryz.underlying30 infoFlight rfl (Nat.succ_pos 3) (by decide) (.slice A10 k c10) (b.f1.zipIdx.take k) (f,b.f1.length) [.string f.f0, .int .i64 f.f1, .int .i64 f.f2, .slice A11 f.f3.length c11] (fun _=>True) (fun j=>w10.heap.size≤j) (by rfl) (by rfl) HM.out (fun j hj=>⟨trivial,fun e=>by have:=M10.out j e.symm;omega⟩) (fun _ _=>trivial) H11.out (B11.out.mono b3.out) (Nat.le_trans b3.out B11.out.size) (by rw [lenZ hk];omega) ?_
    intro v12 w12 ho hb hg hat
    obtain ⟨A12,c12,rfl⟩:=Kd.R_slice ho
    rw [show (b.f1.zipIdx.take k++[(f,b.f1.length)]).length=k+1 by rw [List.length_append,lenZ hk];rfl] at ho hat ⊢
    have B12:Hid (Below wc.heap.size wc w12):=B11.out.grown hg B11.out.size (fun q hq=>N10.out q hq)
    have N12:Hid (∀ j,(Value.slice A12 (k+1) c12).ownBlock=some j→wc.heap.size≤j):=own_next hat (fun j hj=>N10.out j hj) B11.out.size
    have H12:=Lib.hid ho
    clear ho hb hg hat
    refine hK.out _ _ (KS.out _ B12.out) (fun hHeld => ?_)
    clear hK K
    refine oneA 14 (h:=fun K hK => ?_)
    refine Kd.R_append_rows_step (Kd.tag tg k45) (Rr:=(frz (Kd.tag tg k45) wc w3.heap.size (fun j=>(w3.heap.size≤j∧j<wc.heap.size)∧some j≠(Value.slice B1 b.f1.length d1).ownBlock)).K wc) (w0:=wc) w3.heap.size (by rfl) (.tmp 57) (.tmp 61) 30 45 (.agg #[.string ByteArray.empty, .int .i64 0, .int .i64 0, .slice none 0 0]) 56 (by rfl) Tryz.underlying30 infoFlight rfl (Nat.succ_pos 3) (by decide) (.slice A12 (k+1) c12) (b.f1.zipIdx.take k++[(f,b.f1.length)]) (b.f1.zipIdx.drop k) A61 (b.f1.length-k) (d1-k) (fun _=>True) (fun j=>j<wc.heap.size) (by rfl) (by rfl) H12.out (Kd.C_below HD.out B12.out) (fun x cs h=>frz_M2 B12.out h) (fun j hj=>⟨trivial,fun e=>by have:=N12.out j e.symm;omega⟩) (fun _ _=>trivial) (B12.out.mono b3.out) (Nat.le_trans b3.out B12.out.size) (by rw [List.length_append,lenZ hk];simp;omega) ?_
    intro v14 w14 ho hb hg hat
    obtain ⟨A14,c14,rfl⟩:=Kd.R_slice ho
    have H14:=Lib.hid (S_ofTags ho (zip_ins_nodup b.f1 f k))
    have B14:Hid (Below wc.heap.size wc w14):=B12.out.grown hg B12.out.size (fun q hq=>N12.out q hq)
    have hz14:(b.f1.zipIdx.take k++[(f,b.f1.length)]++b.f1.zipIdx.drop k).length=(insAt k f b.f1).length:=by rw [← zip_ins_fst,List.length_map]
    rw [hz14] at H14 ⊢
    rw [zip_ins_fst] at H14
    clear ho hb hg hat hz14
    have p1:=blk_frozen (blk_below Y8.out B14.out) 1
    refine hK.out _ _ (KS.out _ B14.out) (fun hHeld => ?_)
    clear hK K
    refine pureA 15 (h := ?_)
    refine lastA 16 (h:=fun K hK => ?_)
    go_simp
    refine hK.out _ _ ?_
    clear hK K
    refine doneA (h := ?_)
    have hO14:OwnB w14 w3.heap.size (.slice B0 b.f0.length d0) (.slice A14 (insAt k f b.f1).length c14) (.slice B2 b.f2.length d2) ⟨b.f0,insAt k f b.f1,b.f2⟩:=⟨Kd.R_below O8.out.caps B14.out,H14.out,Kd.R_below O8.out.slots B14.out⟩
    have Y14:=blk_below Y8.out B14.out
    have Z14:=blk_below Z8.out B14.out
    have b14:=below_next B8.out B8.out.size B14.out
    have O15:=Lib.hid (hO14.cell Y14 1 (.slice A14 (insAt k f b.f1).length c14))
    have Y15:=Lib.hid (blk_set Y14 1 (.slice A14 (insAt k f b.f1).length c14))
    have Z15:=Lib.hid (blk_far Z14 (p:=⟨w4.heap.size,1,none⟩) (by simp;omega) (.slice A14 (insAt k f b.f1).length c14))
    have B15:=Lib.hid (b14.setCell (p:=⟨w4.heap.size,1,none⟩) (by show w.heap.size≤w4.heap.size;omega) (.slice A14 (insAt k f b.f1).length c14))
    have z15:w4.heap.size+1≤(w14.setCell ⟨w4.heap.size,1,none⟩ (.slice A14 (insAt k f b.f1).length c14)).heap.size:=by have:=B14.out.size;simp;omega
    clear hO14 Y14 Z14 b14 H14 B14 H10 B10 N10 M10 z11 H11 B11 HM H12 B12 N12 p1 KS HX1 BX1 HT HD HFZ HTG O8 Y8 Z8 B8 F8 h61 t1 t4
    obtain ⟨wd,hwd⟩:∃ V,V=w14.setCell ⟨w4.heap.size,1,none⟩ (.slice A14 (insAt k f b.f1).length c14):=⟨_,rfl⟩
    rw [← hwd] at O15 Y15 Z15 B15 z15 ⊢
    clear hwd
    have hkl:k≤b.f2.length:=by rw [HL.out];exact hk
    have hd2:=(Kd.R_reads' O15.out.slots).2.1
    have HT:=Lib.hid (C_takeA (Kd.R_reads' O15.out.slots).2.2 hkl)
    have hdr:=C_dropB (Kd.R_reads' O15.out.slots).2.2 hkl hd2
    obtain ⟨A75,h75⟩:∃ A,(if d2=k then B2 else Option.map (fun x=>x.add k) B2)=A:=⟨_,rfl⟩
    have HD:Hid (Kd.C (Kd.int .i64) wd A75 (b.f2.length-k) (b.f2.drop k)):=by rw [← h75];rw [show k*(Kd.int .i64).sz=k from Nat.mul_one k] at hdr;exact hdr
    clear hdr
    have b3:Hid (w3.heap.size≤wd.heap.size):=by show _≤_;omega
    have t1:(k:Int)≤(d2:Int):=by omega
    have t4:(k:Int)≤(b.f2.length:Int):=by omega
    have hl28:Hid (b.f2.length≤8):=by show _≤_;rw [HL.out];exact HL8.out
    have y2:=(blk_cell Y15.out 2).trans rfl
    have KS:Hid (∀ V,Below wd.heap.size wd V→V.cell? ⟨w4.heap.size,2,none⟩=some (.slice B2 b.f2.length d2)):=fun V h=>pw_cell_below h y2
    clear y2
    go_upto_region 14 with (fail)
    go_cut [76] (fun s76 wx=>∃ (A76:Option Addr) (c76:Nat),Hid (OwnB wx w3.heap.size (.slice B0 b.f0.length d0) (.slice A14 (insAt k f b.f1).length c14) (.slice A76 (insAt k (-1) b.f2).length c76) ⟨b.f0,insAt k f b.f1,insAt k (-1) b.f2⟩) ∧
     Hid (wx.heap[w4.heap.size]? = some (.cells #[.slice B0 b.f0.length d0, .slice A14 (insAt k f b.f1).length c14, .slice A76 (insAt k (-1) b.f2).length c76] 33 (0,0)))∧Hid (wx.heap[w.heap.size+2]? = some (.cells #[.slice none 0 0, .slice none 0 0, .slice none 0 0] 33 (0,0)))∧Hid (Below w.heap.size w wx)∧wd.heap.size≤wx.heap.size)
    case first =>
     refine start_ (n:=15) (S:=fun w'=>w'.cell? ⟨w4.heap.size,2,none⟩=some (.slice B2 b.f2.length d2)) (ds:=[14]) #[false,false,false,false,false,false,false,false,false,false,false,false,false,false,false] (by kernel_rfl) rfl rfl (KS.out _ (pw_below_drewN (Below.refl _ _) 1)) (fun hHeld => ?_)
     refine pureA 1 (h := ?_)
     refine pureA 3 (h := ?_)
     refine pureA 8 (h := ?_)
     refine pureA 10 (h := ?_)
     refine takeA 2 hHeld (h := ?_)
     refine takeA 9 hHeld (h := ?_)
     refine pureA 4 (h := ?_)
     refine pureA 11 (h := ?_)
     have b0:Hid (Below wd.heap.size wd wd.drew):=pw_below_drewN (Below.refl _ _) 1
     generalize wd.drew=V0 at hHeld b0 ⊢
     refine twoA 0 6 (h1:=fun K hK => ?_) (h2:=fun K hK => ?_)
     ·go_simp
      refine hK.out _ _ (KS.out _ (below_alloc b0.out _)) (fun hHeld => ?_)
      clear hK K
      have bb1:Hid (Below wd.heap.size wd (V0.alloc (.cells #[] 3))):=below_alloc b0.out _
      have hs1:Hid ((V0.alloc (.cells #[] 3)).heap.size=V0.heap.size+1):=(by show _=_;simp)
      have h1:Hid (Kd.R (Kd.int .i64) 3 (V0.alloc (.cells #[] 3)) w3.heap.size (fun _=>True) (.slice (some ⟨V0.heap.size,0,none⟩) 0 0) []):=Kd.R_lower (R_made V0 3) (Nat.le_trans b3.out b0.out.size)
      have n1:Hid (∀ j,(Value.slice (some ⟨V0.heap.size,0,none⟩) 0 0).ownBlock=some j→wd.heap.size≤j):=fun j hj=>by have:=own_at hj;have:=b0.out.size;omega
      obtain ⟨V1,hV1⟩:∃ V,V=V0.alloc (.cells #[] 3):=⟨_,rfl⟩
      rw [← hV1] at bb1 hHeld hs1 h1 ⊢
      clear hV1
      refine twoA 5 6 (h1:=fun K hK => ?_) (h2:=fun K hK => ?_)
      ·refine Kd.R_append_rows_step (Kd.int .i64) (w0:=wd) w3.heap.size (by rfl) (.tmp 64) (.tmp 68) 31 3 (.int .i64 0) 8 (by rfl) Tryz.underlying31 infoInt rfl (by decide) (by decide) (.slice (some ⟨V0.heap.size,0,none⟩) 0 0) [] (b.f2.take k) B2 k d2 (fun _=>True) (fun _=>False) (by rfl) (by rfl) h1.out (Kd.C_below HT.out bb1.out) (fun x cs h=>h) (fun _ h=>h.elim) (fun _ _=>trivial) (bb1.out.mono b3.out) (Nat.le_trans b3.out bb1.out.size) (by have:=hl28.out;simp;omega) ?_
       intro v3 V3 ho hb hg hat
       rw [List.nil_append] at ho
       obtain ⟨A3_,c3_,rfl⟩:=Kd.R_slice ho
       rw [lenT hkl] at ho hat ⊢
       have bb3:Hid (Below wd.heap.size wd V3):=bb1.out.grown hg bb1.out.size (fun q hq=>n1.out q hq)
       have n3:Hid (∀ j,(Value.slice A3_ k c3_).ownBlock=some j→wd.heap.size≤j):=own_next hat (fun j hj=>n1.out j hj) bb1.out.size
       have h3:=Lib.hid ho
       clear ho hb hg hat
       refine hK.out _ _ (KS.out _ bb3.out) (fun hHeld => ?_)
       clear hK K
       refine oneA 6 (h:=fun K hK => ?_)
       go_simp
       refine hK.out _ _ (KS.out _ (below_alloc bb3.out _)) (fun hHeld => ?_)
       clear hK K
       have bb5:Hid (Below wd.heap.size wd (V3.alloc (.cells #[.int .i64 (-1)] 3))):=below_alloc bb3.out _
       have hs5:Hid ((V3.alloc (.cells #[.int .i64 (-1)] 3)).heap.size=V3.heap.size+1):=(by show _=_;simp)
       have c5:Hid ((V3.alloc (.cells #[.int .i64 (-1)] 3)).cell? ⟨V3.heap.size,0,none⟩=some (.int .i64 (-1))):=(by simp:_=_)
       have h5:=Lib.hid (Kd.R_alloc h3.out (.cells #[.int .i64 (-1)] 3))
       obtain ⟨V5,hV5⟩:∃ V,V=V3.alloc (.cells #[.int .i64 (-1)] 3):=⟨_,rfl⟩
       rw [← hV5] at bb5 hHeld hs5 c5 h5 ⊢
       clear hV5
       refine oneA 7 (h:=fun K hK => ?_)
       refine Kd.R_append_rows_step (Kd.int .i64) (w0:=wd) w3.heap.size (by rfl) (.tmp 69) (.tmp 70) 31 3 (.int .i64 0) 8 (by rfl) Tryz.underlying31 infoInt rfl (by decide) (by decide) (.slice A3_ k c3_) (b.f2.take k) [(-1:Int)] (some ⟨V3.heap.size,0,none⟩) 1 1 (fun _=>True) (fun _=>False) (by rfl) (by rfl) h5.out (C_one c5.out) (fun x cs h=>h) (fun _ h=>h.elim) (fun _ _=>trivial) (bb5.out.mono b3.out) (Nat.le_trans b3.out bb5.out.size) (by rw [lenT hkl];have:=hl28.out;omega) ?_
       intro v6 V6 ho hb hg hat
       obtain ⟨A6_,c6_,rfl⟩:=Kd.R_slice ho
       rw [show (b.f2.take k++[(-1:Int)]).length=k+1 by rw [List.length_append,lenT hkl];rfl] at ho hat ⊢
       have bb6:Hid (Below wd.heap.size wd V6):=bb5.out.grown hg bb5.out.size (fun q hq=>n3.out q hq)
       have n6:Hid (∀ j,(Value.slice A6_ (k+1) c6_).ownBlock=some j→wd.heap.size≤j):=own_next hat (fun j hj=>n3.out j hj) bb5.out.size
       have h6:=Lib.hid ho
       clear ho hb hg hat
       refine hK.out _ _ (KS.out _ bb6.out) (fun hHeld => ?_)
       clear hK K
       refine oneA 12 (h:=fun K hK => ?_)
       refine Kd.R_append_rows_step (Kd.int .i64) (w0:=wd) w3.heap.size (by rfl) (.tmp 71) (.tmp 75) 31 3 (.int .i64 0) 8 (by rfl) Tryz.underlying31 infoInt rfl (by decide) (by decide) (.slice A6_ (k+1) c6_) (b.f2.take k++[-1]) (b.f2.drop k) A75 (b.f2.length-k) (d2-k) (fun _=>True) (fun _=>False) (by rfl) (by rfl) h6.out (Kd.C_below HD.out bb6.out) (fun x cs h=>h) (fun _ h=>h.elim) (fun _ _=>trivial) (bb6.out.mono b3.out) (Nat.le_trans b3.out bb6.out.size) (by rw [List.length_append,lenT hkl];have:=hl28.out;simp;omega) ?_
       intro v7 V7 ho hb hg hat
       obtain ⟨A7_,c7_,rfl⟩:=Kd.R_slice ho
       rw [show (b.f2.take k++[(-1:Int)]++b.f2.drop k).length=(insAt k (-1) b.f2).length from rfl] at ho hat ⊢
       have bb7:Hid (Below wd.heap.size wd V7):=bb6.out.grown hg bb6.out.size (fun q hq=>n6.out q hq)
       have n7:Hid (∀ j,(Value.slice A7_ (insAt k (-1) b.f2).length c7_).ownBlock=some j→wd.heap.size≤j):=own_next hat (fun j hj=>n6.out j hj) bb6.out.size
       have h7:=Lib.hid ho
       clear ho hb hg hat
       refine hK.out _ _ (KS.out _ bb7.out) (fun hHeld => ?_)
       clear hK K
       refine pureA 13 (h := ?_)
       have p2:=blk_frozen (blk_below Y15.out bb7.out) 2
       refine lastA 14 (h:=fun K hK => ?_)
       go_simp
       refine hK.out _ _ ?_
       clear hK K
       refine doneA (h := ?_)
       go_wp2_with (fail)
       go_meet
       exact ⟨A7_,c7_,(show OwnB V7 w3.heap.size _ _ _ ⟨b.f0,insAt k f b.f1,insAt k (-1) b.f2⟩ from ⟨Kd.R_below O15.out.caps bb7.out,Kd.S_below O15.out.flights bb7.out,h7.out⟩).cell (blk_below Y15.out bb7.out) 2 _,blk_set (blk_below Y15.out bb7.out) 2 _,blk_far (blk_below Z15.out bb7.out) (p:=⟨w4.heap.size,2,none⟩) (by simp;omega) _,(below_next B15.out B15.out.size bb7.out).setCell (p:=⟨w4.heap.size,2,none⟩) (by show w.heap.size≤w4.heap.size;omega) _,by have:=bb7.out.size;simpa using this⟩
      ·go_simp
       refine hK.out _ _ (KS.out _ (below_alloc bb1.out _)) (fun hHeld => ?_)
       clear hK K
       have bb4:Hid (Below wd.heap.size wd (V1.alloc (.cells #[.int .i64 (-1)] 3))):=below_alloc bb1.out _
       have hs4:Hid ((V1.alloc (.cells #[.int .i64 (-1)] 3)).heap.size=V1.heap.size+1):=(by show _=_;simp)
       have c4:Hid ((V1.alloc (.cells #[.int .i64 (-1)] 3)).cell? ⟨V1.heap.size,0,none⟩=some (.int .i64 (-1))):=(by simp:_=_)
       have h4:=Lib.hid (Kd.R_alloc h1.out (.cells #[.int .i64 (-1)] 3))
       obtain ⟨V4,hV4⟩:∃ V,V=V1.alloc (.cells #[.int .i64 (-1)] 3):=⟨_,rfl⟩
       rw [← hV4] at bb4 hHeld hs4 c4 h4 ⊢
       clear hV4
       refine oneA 5 (h:=fun K hK => ?_)
       refine Kd.R_append_rows_step (Kd.int .i64) (w0:=wd) w3.heap.size (by rfl) (.tmp 64) (.tmp 68) 31 3 (.int .i64 0) 8 (by rfl) Tryz.underlying31 infoInt rfl (by decide) (by decide) (.slice (some ⟨V0.heap.size,0,none⟩) 0 0) [] (b.f2.take k) B2 k d2 (fun _=>True) (fun _=>False) (by rfl) (by rfl) h4.out (Kd.C_below HT.out bb4.out) (fun x cs h=>h) (fun _ h=>h.elim) (fun _ _=>trivial) (bb4.out.mono b3.out) (Nat.le_trans b3.out bb4.out.size) (by have:=hl28.out;simp;omega) ?_
       intro v8 V8 ho hb hg hat
       rw [List.nil_append] at ho
       obtain ⟨A8_,c8_,rfl⟩:=Kd.R_slice ho
       rw [lenT hkl] at ho hat ⊢
       have bb8:Hid (Below wd.heap.size wd V8):=bb4.out.grown hg bb4.out.size (fun q hq=>n1.out q hq)
       have n8:Hid (∀ j,(Value.slice A8_ k c8_).ownBlock=some j→wd.heap.size≤j):=own_next hat (fun j hj=>n1.out j hj) bb4.out.size
       have c8:Hid (V8.cell? ⟨V1.heap.size,0,none⟩=some (.int .i64 (-1))):=cell_grown hg c4.out (fun e=>by have h_:V0.heap.size=V1.heap.size:=own_at e.symm;have:=hs1.out;have:=hs4.out;omega)
       have h8:=Lib.hid ho
       clear ho hb hg hat
       refine hK.out _ _ (KS.out _ bb8.out) (fun hHeld => ?_)
       clear hK K
       refine oneA 7 (h:=fun K hK => ?_)
       refine Kd.R_append_rows_step (Kd.int .i64) (w0:=wd) w3.heap.size (by rfl) (.tmp 69) (.tmp 70) 31 3 (.int .i64 0) 8 (by rfl) Tryz.underlying31 infoInt rfl (by decide) (by decide) (.slice A8_ k c8_) (b.f2.take k) [(-1:Int)] (some ⟨V1.heap.size,0,none⟩) 1 1 (fun _=>True) (fun _=>False) (by rfl) (by rfl) h8.out (C_one c8.out) (fun x cs h=>h) (fun _ h=>h.elim) (fun _ _=>trivial) (bb8.out.mono b3.out) (Nat.le_trans b3.out bb8.out.size) (by rw [lenT hkl];have:=hl28.out;omega) ?_
       intro v9 V9 ho hb hg hat
       obtain ⟨A9_,c9_,rfl⟩:=Kd.R_slice ho
       rw [show (b.f2.take k++[(-1:Int)]).length=k+1 by rw [List.length_append,lenT hkl];rfl] at ho hat ⊢
       have bb9:Hid (Below wd.heap.size wd V9):=bb8.out.grown hg bb8.out.size (fun q hq=>n8.out q hq)
       have n9:Hid (∀ j,(Value.slice A9_ (k+1) c9_).ownBlock=some j→wd.heap.size≤j):=own_next hat (fun j hj=>n8.out j hj) bb8.out.size
       have h9:=Lib.hid ho
       clear ho hb hg hat
       refine hK.out _ _ (KS.out _ bb9.out) (fun hHeld => ?_)
       clear hK K
       refine oneA 12 (h:=fun K hK => ?_)
       refine Kd.R_append_rows_step (Kd.int .i64) (w0:=wd) w3.heap.size (by rfl) (.tmp 71) (.tmp 75) 31 3 (.int .i64 0) 8 (by rfl) Tryz.underlying31 infoInt rfl (by decide) (by decide) (.slice A9_ (k+1) c9_) (b.f2.take k++[-1]) (b.f2.drop k) A75 (b.f2.length-k) (d2-k) (fun _=>True) (fun _=>False) (by rfl) (by rfl) h9.out (Kd.C_below HD.out bb9.out) (fun x cs h=>h) (fun _ h=>h.elim) (fun _ _=>trivial) (bb9.out.mono b3.out) (Nat.le_trans b3.out bb9.out.size) (by rw [List.length_append,lenT hkl];have:=hl28.out;simp;omega) ?_
       intro v10 V10 ho hb hg hat
       obtain ⟨A10_,c10_,rfl⟩:=Kd.R_slice ho
       rw [show (b.f2.take k++[(-1:Int)]++b.f2.drop k).length=(insAt k (-1) b.f2).length from rfl] at ho hat ⊢
       have bb10:Hid (Below wd.heap.size wd V10):=bb9.out.grown hg bb9.out.size (fun q hq=>n9.out q hq)
       have n10:Hid (∀ j,(Value.slice A10_ (insAt k (-1) b.f2).length c10_).ownBlock=some j→wd.heap.size≤j):=own_next hat (fun j hj=>n9.out j hj) bb9.out.size
       have h10:=Lib.hid ho
       clear ho hb hg hat
       refine hK.out _ _ (KS.out _ bb10.out) (fun hHeld => ?_)
       clear hK K
       refine pureA 13 (h := ?_)
       have p2:=blk_frozen (blk_below Y15.out bb10.out) 2
       refine lastA 14 (h:=fun K hK => ?_)
       go_simp
       refine hK.out _ _ ?_
       clear hK K
       refine doneA (h := ?_)
       go_wp2_with (fail)
       go_meet
       exact ⟨A10_,c10_,(show OwnB V10 w3.heap.size _ _ _ ⟨b.f0,insAt k f b.f1,insAt k (-1) b.f2⟩ from ⟨Kd.R_below O15.out.caps bb10.out,Kd.S_below O15.out.flights bb10.out,h10.out⟩).cell (blk_below Y15.out bb10.out) 2 _,blk_set (blk_below Y15.out bb10.out) 2 _,blk_far (blk_below Z15.out bb10.out) (p:=⟨w4.heap.size,2,none⟩) (by simp;omega) _,(below_next B15.out B15.out.size bb10.out).setCell (p:=⟨w4.heap.size,2,none⟩) (by show w.heap.size≤w4.heap.size;omega) _,by have:=bb10.out.size;simpa using this⟩
     ·go_simp
      refine hK.out _ _ (KS.out _ (below_alloc b0.out _)) (fun hHeld => ?_)
      clear hK K
      have bb2:Hid (Below wd.heap.size wd (V0.alloc (.cells #[.int .i64 (-1)] 3))):=below_alloc b0.out _
      have hs2:Hid ((V0.alloc (.cells #[.int .i64 (-1)] 3)).heap.size=V0.heap.size+1):=(by show _=_;simp)
      have c2:Hid ((V0.alloc (.cells #[.int .i64 (-1)] 3)).cell? ⟨V0.heap.size,0,none⟩=some (.int .i64 (-1))):=(by simp:_=_)
      obtain ⟨V2,hV2⟩:∃ V,V=V0.alloc (.cells #[.int .i64 (-1)] 3):=⟨_,rfl⟩
      rw [← hV2] at bb2 hHeld hs2 c2 ⊢
      clear hV2
      refine oneA 0 (h:=fun K hK => ?_)
      go_simp
      refine hK.out _ _ (KS.out _ (below_alloc bb2.out _)) (fun hHeld => ?_)
      clear hK K
      have bb11:Hid (Below wd.heap.size wd (V2.alloc (.cells #[] 3))):=below_alloc bb2.out _
      have hs11:Hid ((V2.alloc (.cells #[] 3)).heap.size=V2.heap.size+1):=(by show _=_;simp)
      have h11:Hid (Kd.R (Kd.int .i64) 3 (V2.alloc (.cells #[] 3)) w3.heap.size (fun _=>True) (.slice (some ⟨V2.heap.size,0,none⟩) 0 0) []):=Kd.R_lower (R_made V2 3) (Nat.le_trans b3.out bb2.out.size)
      have n11:Hid (∀ j,(Value.slice (some ⟨V2.heap.size,0,none⟩) 0 0).ownBlock=some j→wd.heap.size≤j):=fun j hj=>by have:=own_at hj;have:=bb2.out.size;omega
      have c11:=Lib.hid (cell_al c2.out (.cells #[] 3))
      obtain ⟨V11,hV11⟩:∃ V,V=V2.alloc (.cells #[] 3):=⟨_,rfl⟩
      rw [← hV11] at bb11 hHeld hs11 h11 c11 ⊢
      clear hV11
      refine oneA 5 (h:=fun K hK => ?_)
      refine Kd.R_append_rows_step (Kd.int .i64) (w0:=wd) w3.heap.size (by rfl) (.tmp 64) (.tmp 68) 31 3 (.int .i64 0) 8 (by rfl) Tryz.underlying31 infoInt rfl (by decide) (by decide) (.slice (some ⟨V2.heap.size,0,none⟩) 0 0) [] (b.f2.take k) B2 k d2 (fun _=>True) (fun _=>False) (by rfl) (by rfl) h11.out (Kd.C_below HT.out bb11.out) (fun x cs h=>h) (fun _ h=>h.elim) (fun _ _=>trivial) (bb11.out.mono b3.out) (Nat.le_trans b3.out bb11.out.size) (by have:=hl28.out;simp;omega) ?_
      intro v12 V12 ho hb hg hat
      rw [List.nil_append] at ho
      obtain ⟨A12_,c12_,rfl⟩:=Kd.R_slice ho
      rw [lenT hkl] at ho hat ⊢
      have bb12:Hid (Below wd.heap.size wd V12):=bb11.out.grown hg bb11.out.size (fun q hq=>n11.out q hq)
      have n12:Hid (∀ j,(Value.slice A12_ k c12_).ownBlock=some j→wd.heap.size≤j):=own_next hat (fun j hj=>n11.out j hj) bb11.out.size
      have c12:Hid (V12.cell? ⟨V0.heap.size,0,none⟩=some (.int .i64 (-1))):=cell_grown hg c11.out (fun e=>by have h_:V2.heap.size=V0.heap.size:=own_at e.symm;have:=hs2.out;have:=hs11.out;omega)
      have h12:=Lib.hid ho
      clear ho hb hg hat
      refine hK.out _ _ (KS.out _ bb12.out) (fun hHeld => ?_)
      clear hK K
      refine oneA 7 (h:=fun K hK => ?_)
      refine Kd.R_append_rows_step (Kd.int .i64) (w0:=wd) w3.heap.size (by rfl) (.tmp 69) (.tmp 70) 31 3 (.int .i64 0) 8 (by rfl) Tryz.underlying31 infoInt rfl (by decide) (by decide) (.slice A12_ k c12_) (b.f2.take k) [(-1:Int)] (some ⟨V0.heap.size,0,none⟩) 1 1 (fun _=>True) (fun _=>False) (by rfl) (by rfl) h12.out (C_one c12.out) (fun x cs h=>h) (fun _ h=>h.elim) (fun _ _=>trivial) (bb12.out.mono b3.out) (Nat.le_trans b3.out bb12.out.size) (by rw [lenT hkl];have:=hl28.out;omega) ?_
      intro v13 V13 ho hb hg hat
      obtain ⟨A13_,c13_,rfl⟩:=Kd.R_slice ho
      rw [show (b.f2.take k++[(-1:Int)]).length=k+1 by rw [List.length_append,lenT hkl];rfl] at ho hat ⊢
      have bb13:Hid (Below wd.heap.size wd V13):=bb12.out.grown hg bb12.out.size (fun q hq=>n12.out q hq)
      have n13:Hid (∀ j,(Value.slice A13_ (k+1) c13_).ownBlock=some j→wd.heap.size≤j):=own_next hat (fun j hj=>n12.out j hj) bb12.out.size
      have h13:=Lib.hid ho
      clear ho hb hg hat
      refine hK.out _ _ (KS.out _ bb13.out) (fun hHeld => ?_)
      clear hK K
      refine oneA 12 (h:=fun K hK => ?_)
      refine Kd.R_append_rows_step (Kd.int .i64) (w0:=wd) w3.heap.size (by rfl) (.tmp 71) (.tmp 75) 31 3 (.int .i64 0) 8 (by rfl) Tryz.underlying31 infoInt rfl (by decide) (by decide) (.slice A13_ (k+1) c13_) (b.f2.take k++[-1]) (b.f2.drop k) A75 (b.f2.length-k) (d2-k) (fun _=>True) (fun _=>False) (by rfl) (by rfl) h13.out (Kd.C_below HD.out bb13.out) (fun x cs h=>h) (fun _ h=>h.elim) (fun _ _=>trivial) (bb13.out.mono b3.out) (Nat.le_trans b3.out bb13.out.size) (by rw [List.length_append,lenT hkl];have:=hl28.out;simp;omega) ?_
      intro v14 V14 ho hb hg hat
      obtain ⟨A14_,c14_,rfl⟩:=Kd.R_slice ho
      rw [show (b.f2.take k++[(-1:Int)]++b.f2.drop k).length=(insAt k (-1) b.f2).length from rfl] at ho hat ⊢
      have bb14:Hid (Below wd.heap.size wd V14):=bb13.out.grown hg bb13.out.size (fun q hq=>n13.out q hq)
      have n14:Hid (∀ j,(Value.slice A14_ (insAt k (-1) b.f2).length c14_).ownBlock=some j→wd.heap.size≤j):=own_next hat (fun j hj=>n13.out j hj) bb13.out.size
      have h14:=Lib.hid ho
      clear ho hb hg hat
      refine hK.out _ _ (KS.out _ bb14.out) (fun hHeld => ?_)
      clear hK K
      refine pureA 13 (h := ?_)
      have p2:=blk_frozen (blk_below Y15.out bb14.out) 2
      refine lastA 14 (h:=fun K hK => ?_)
      go_simp
      refine hK.out _ _ ?_
      clear hK K
      refine doneA (h := ?_)
      go_wp2_with (fail)
      go_meet
      exact ⟨A14_,c14_,(show OwnB V14 w3.heap.size _ _ _ ⟨b.f0,insAt k f b.f1,insAt k (-1) b.f2⟩ from ⟨Kd.R_below O15.out.caps bb14.out,Kd.S_below O15.out.flights bb14.out,h14.out⟩).cell (blk_below Y15.out bb14.out) 2 _,blk_set (blk_below Y15.out bb14.out) 2 _,blk_far (blk_below Z15.out bb14.out) (p:=⟨w4.heap.size,2,none⟩) (by simp;omega) _,(below_next B15.out B15.out.size bb14.out).setCell (p:=⟨w4.heap.size,2,none⟩) (by show w.heap.size≤w4.heap.size;omega) _,by have:=bb14.out.size;simpa using this⟩
    case rest =>
     clear O15 Y15 Z15 B15 HT HD b3 t1 t4 hl28 KS
     obtain ⟨A76,c76,O16,Y16,Z16,B16,z16⟩:=hcut
     clear h75
     have hins:=ins_fits (b:=b) HF.out HFL.out (by have:=HA.out;omega) (by have:=H8.out;omega)
     rw [HPK.out] at hins
     obtain ⟨hcs,hss,hts,_⟩:=fitsB_parts hins
     have hl1:(insAt k f b.f1).length=b.f1.length+1:=insAt_len f hk
     have hl2:(insAt k (-1) b.f2).length=b.f2.length+1:=insAt_len (-1) hkl
     obtain ⟨g13,e13,hv13,hg0,_,_,_⟩:=Kd.R_form O16.out.slots (show 0<(insAt k (-1) b.f2).length by omega)
     injection hv13 with hA13 _ he13
     subst hA13
     subst he13
     have hxk:(insAt k f b.f1)[k]? = some f:=insAt_at hk
     have Q18:=Lib.hid (fun V (h:Below wc.heap.size wc V) =>
      (spec_least_any B0 d0 b.f0 A14 c14 (insAt k f b.f1) (some ⟨g13,0,none⟩) c76 (insAt k (-1) b.f2) k f V (Kd.C_below (Kd.R_reads' O16.out.caps).2.2 h) (Kd.C_below (Kd.S_reads' O16.out.flights).2.2 h) (Kd.C_below (Kd.R_reads' O16.out.slots).2.2 h) hxk hcs hss hts))
     have HXK:=Lib.hid hxk
     have g0:=(blk_cell Y16.out 0).trans rfl
     have g1:=(blk_cell Y16.out 1).trans rfl
     have g2:=(blk_cell Y16.out 2).trans rfl
     have j1:(k:Int)<((insAt k (-1) b.f2).length:Int):=by omega
     have bd:Below wc.heap.size wc wc.drew:=pw_below_drewN (Below.refl _ _) 1
     have BD:=Lib.hid bd
     have HNE:Hid (g13≠w4.heap.size):=fun e=>(Kd.R_ne O16.out.slots Y16.out (by decide)) (by rw [← e];rfl)
     have HNZ:Hid (g13≠w.heap.size+2):=by show _≠_;omega
     have HL1A:=Lib.hid hl1
     have HL2A:=Lib.hid hl2
     clear bd hins hcs hss hts hxk hl1 hl2
     go_upto_region 15 with (fail)
     go_region_held3 (fun W'=>W'.cell? ⟨w4.heap.size,0,none⟩=some (.slice B0 b.f0.length d0)∧W'.cell? ⟨w4.heap.size,1,none⟩=some (.slice A14 (insAt k f b.f1).length c14)∧W'.cell? ⟨w4.heap.size,2,none⟩=some (.slice (some ⟨g13,0,none⟩) (insAt k (-1) b.f2).length c76)) (first | go_keep | exact ⟨(World.cell?_setCell_far _ _ _ _ HNE.out).trans (by assumption),(World.cell?_setCell_far _ _ _ _ HNE.out).trans (by assumption),(World.cell?_setCell_far _ _ _ _ HNE.out).trans (by assumption)⟩) (first
      | (go_at_call 50;refine (Q18.out _ BD.out).mono ?_;rintro e w17 ⟨rfl,hb17⟩;have b17:=BD.out.trans hb17;have g0:=pw_cell_below b17 g0;have g1:=pw_cell_below b17 g1;have g2:=pw_cell_below b17 g2;have O17:=Lib.hid (O16.out.below b17);have Y17:=Lib.hid (blk_below Y16.out b17);have Z17:=Lib.hid (blk_below Z16.out b17);have B17:=Lib.hid (below_next B16.out B16.out.size b17);obtain ⟨z,z0,zf⟩:=R_cellN O17.out.slots k (by have:=HL2A.out;omega);clear hb17 b17))
     have O18:=Lib.hid (O17.out.slot k (leastN b.f0 (insAt k f b.f1) (insAt k (-1) b.f2) k f))
     have Y18:=Lib.hid (blk_far Y17.out (p:=⟨g13,k,none⟩) (by have:=HNE.out;simp;omega) (.int .i64 (leastN b.f0 (insAt k f b.f1) (insAt k (-1) b.f2) k f)))
     have Z18:=Lib.hid (blk_far Z17.out (p:=⟨g13,k,none⟩) (by have:=HNZ.out;simp;omega) (.int .i64 (leastN b.f0 (insAt k f b.f1) (insAt k (-1) b.f2) k f)))
     have B18:=Lib.hid (B17.out.setCell (p:=⟨g13,k,none⟩) (by show w.heap.size≤g13;omega) (.int .i64 (leastN b.f0 (insAt k f b.f1) (insAt k (-1) b.f2) k f)))
     have hadd:addN b f=⟨b.f0,insAt k f b.f1,(insAt k (-1) b.f2).set k (leastN b.f0 (insAt k f b.f1) (insAt k (-1) b.f2) k f)⟩:=by
      unfold addN
      rw [HPK.out,leastAt_some HXK.out]
     have HADD:=Lib.hid hadd
     clear hadd O16 Y16 Z16 B16 O17 Y17 Z17 B17 g0 g1 g2 z0 zf
     have y0:=(blk_cell Y18.out 0).trans rfl
     have y1:=(blk_cell Y18.out 1).trans rfl
     have y2:=(blk_cell Y18.out 2).trans rfl
     have hok:=addN_ok (b:=b) HF.out HFL.out (by have:=HA.out;omega) (by have:=H8.out;omega)
     rw [HADD.out] at hok
     obtain ⟨m0,m1,m2,m3⟩:=fits_small hok
     have qd:=spec_copy_any B0 d0 A14 c14 (some ⟨g13,0,none⟩) c76 ⟨b.f0,insAt k f b.f1,(insAt k (-1) b.f2).set k (leastN b.f0 (insAt k f b.f1) (insAt k (-1) b.f2) k f)⟩ _ (Kd.R_reads' O18.out.caps).2.2 (Kd.S_reads' O18.out.flights).2.2 (Kd.R_reads' O18.out.slots).2.2 m0 m1 m2 m3
     dsimp only at qd
     rw [List.length_set] at qd
     have QD:=Lib.hid qd
     clear hok m0 m1 m2 m3 qd
     go_wp2_with (fail)
     refine QD.out.mono ?_
     rintro e w19 ⟨t0,t1',t2',rfl,hO19,hb19⟩
     obtain ⟨C0,i0,C1',i1,C2,i2,rfl,rfl,rfl,_,_,_⟩:=hO19.form
     have Z19:=Lib.hid (blk_below Z18.out hb19)
     have O19:=Lib.hid (hO19.lower (base':=w.heap.size) B18.out.size)
     have B19:=Lib.hid (below_next B18.out B18.out.size hb19)
     clear hO19 hb19 Z18 B18 O18 Y18 QD y0 y1 y2
     have cr0:=(blk_cell Z19.out 0).trans rfl
     have cr1:=(blk_cell Z19.out 1).trans rfl
     have cr2:=(blk_cell Z19.out 2).trans rfl
     have pr0:=blk_frozen Z19.out 0
     have pr1:=blk_frozen Z19.out 1
     have pr2:=blk_frozen Z19.out 2
     obtain ⟨n0,hn0⟩:∃ n,n=(⟨b.f0,insAt k f b.f1,(insAt k (-1) b.f2).set k (leastN b.f0 (insAt k f b.f1) (insAt k (-1) b.f2) k f)⟩:Book).f0.length:=⟨_,rfl⟩
     obtain ⟨n1,hn1⟩:∃ n,n=(⟨b.f0,insAt k f b.f1,(insAt k (-1) b.f2).set k (leastN b.f0 (insAt k f b.f1) (insAt k (-1) b.f2) k f)⟩:Book).f1.length:=⟨_,rfl⟩
     obtain ⟨n2,hn2⟩:∃ n,n=(⟨b.f0,insAt k f b.f1,(insAt k (-1) b.f2).set k (leastN b.f0 (insAt k f b.f1) (insAt k (-1) b.f2) k f)⟩:Book).f2.length:=⟨_,rfl⟩
     rw [← hn0,← hn1,← hn2] at O19 ⊢
     clear hn0 hn1 hn2
     rw [← HADD.out] at O19
     have s0:=blk_set Z19.out 0 (.slice C0 n0 i0)
     have s1:=blk_set s0 1 (.slice C1' n1 i1)
     have s2:=Lib.hid (blk_set s1 2 (.slice C2 n2 i2))
     clear s0 s1
     go_wp2
     refine bodyPost_ret (results_ct rfl _ _ (w.heap.size+2) 33 #[.slice C0 n0 i0, .slice C1' n1 i1, .slice C2 n2 i2] (0,0) _ rfl s2.out Tryz.underlying33 rfl (by kernel_rfl)) rfl ?_
     obtain ⟨h1,h2⟩:=O19.out.res B19.out Z19.out (by omega) (.slice C0 n0 i0) (.slice C1' n1 i1) (.slice C2 n2 i2)
     rw [addR_0 HF.out HFL.out (by have:=HA.out;omega) (by have:=H8.out;omega)]
     exact ⟨_,_,_,rfl,h1,h2⟩
set_option maxRecDepth 100000 in
set_option maxHeartbeats 4000000 in
theorem insert_caps_grow (g c i:Nat) (cur:Array Value) (cs:List Value) (W:World) (hc:W.heap[g]? = some (.cells cur 80 (0,0))) (hs:cur.size=c*2) (hi:i<c) (hn:c≤1000) (hcl:cs.length=2) (h1:∀ u∈cs,u.oneCell'=true) (h1c:∀ u∈cur.toList.take (c*2),u.oneCell'=true) :
  Calls Tryz.prog 68 #[.slice (some ⟨g,0,none⟩) c c, .int .i64 i, .slice (some ⟨W.heap.size,0,none⟩) 1 1] (W.alloc (.cells cs.toArray 80)) fun e w'=>∃ (G:Nat) (cur':Array Value),e = .returned (.slice (some ⟨W.heap.size+1,0,none⟩) (c+1) G)∧w'.heap[W.heap.size+1]? = some (.cells cur' 80 (0,0))∧cur'.size=G*2∧c+1≤G∧G≤maxLen ∧
   cur'.toList.take ((c+1)*2)=cur.toList.take (i*2)++cs++(cur.toList.take (c*2)).drop (i*2)∧Below W.heap.size W w':=by
 obtain ⟨i0,hi0,heq⟩:=Option.map_eq_some_iff.1 infoCap
 simp only [Prod.mk.injEq] at heq
 obtain ⟨hz,hsz,hby⟩:=heq
 obtain ⟨G,W1,W2,W3,cur',hap,hcp1,hcp2,hr3,hrs,hG1,hG2,htk,hB3⟩:=ins_grow Tryz.prog 29 3 80 i0 (.agg #[.string ByteArray.empty, .int .i64 0]) 2 24 Tryz.underlying29 Tryz.underlying3 hi0 hz hsz hby rfl (by decide) (by decide) g c i cur cs W hc hs hi hn hcl h1 h1c
 obtain ⟨w0,hw0⟩:∃ w0,w0=W.alloc (.cells cs.toArray 80):=⟨_,rfl⟩
 rw [← hw0] at hap ⊢
 have H3:=Lib.hid hr3
 have HT:=Lib.hid htk
 have HB:=Lib.hid hB3
 have HRS:=Lib.hid hrs
 have HG2:=Lib.hid hG2
 have j1:(i:Int)≤(c:Int):=by omega
 have j2:(i:Int)<(c:Int):=by omega
 have j3:((i:Int) == (c:Int))=false:=by simp;omega
 have j4:IntKind.i64.wrap ((c:Int)+1)=(c:Int)+1:=IntWalk.i64_in _ (by omega)
 have j5:decide ((c:Int)+1 > (c:Int))=true:=decide_eq_true (by omega)
 have j6:IntKind.i64.wrap ((c:Int)+1-(i:Int))=((c+1-i:Nat):Int):=by rw [IntWalk.i64_in _ (by omega)];omega
 have j7:(i:Int)≤(c:Int)+1:=by omega
 have j8:(i:Int)+1≤(c:Int)+1:=by omega
 have j9:IntKind.i64.wrap ((i:Int)+1)=(i:Int)+1:=IntWalk.i64_in _ (by omega)
 have j10:(0:Int)≤(i:Int)+1:=by omega
 have k1:¬ G=i:=by omega
 have k2:¬ G=i+1:=by omega
 have k3:¬ c=i:=by omega
 have k4:(c:Int)+1≤(G:Int):=by omega
 clear hr3 htk hB3 hrs hG2 hc hs h1 h1c hi0 hz hsz hby hw0 hcl
 go_enter Tryz.func68,Tryz.ntmps68
 go_upto_region 11 with (first
  | (at_builtin;refine Go.Lib.wpList_append_run _ rfl _ _ _ _ rfl _ _ rfl rfl _ _ (hap _) ?_)
  | (at_builtin;refine copy_list rfl _ _ 29 29 rfl _ _ rfl rfl (hcp1 _) ?_))
 go_region_held3 (fun _=>True) (trivial) (first
  | (refine copy_step rfl _ _ 29 29 rfl _ _ (by rfl) (by rfl) (hcp2 _) ?_))
 all_goals
  go_wp2
  go_ret
  exact ⟨G,cur',rfl,H3.out,HRS.out,hG1,HG2.out,HT.out,HB.out⟩
set_option maxRecDepth 100000 in
set_option maxHeartbeats 4000000 in
theorem insert_caps_room (g n c i:Nat) (cur:Array Value) (cs:List Value) (W:World) (hc:W.heap[g]? = some (.cells cur 80 (0,0))) (hs:cur.size=c*2) (hi:i<n) (hroom:n+1≤c) (hcm:c≤9223372036854775807) (hn:n≤1000) (hcl:cs.length=2) (h1:∀ u∈cs,u.oneCell'=true) (h1c:∀ u∈cur.toList.take (n*2),u.oneCell'=true) :
  Calls Tryz.prog 68 #[.slice (some ⟨g,0,none⟩) n c, .int .i64 i, .slice (some ⟨W.heap.size,0,none⟩) 1 1] (W.alloc (.cells cs.toArray 80)) fun e w'=>∃ cur':Array Value,e = .returned (.slice (some ⟨g,0,none⟩) (n+1) c)∧w'.heap[g]? = some (.cells cur' 80 (0,0))∧cur'.size=c*2 ∧
   cur'.toList.take ((n+1)*2)=cur.toList.take (i*2)++cs++(cur.toList.take (n*2)).drop (i*2)∧(W.alloc (.cells cs.toArray 80)).grownBy w' (some g):=by
 obtain ⟨i0,hi0,heq⟩:=Option.map_eq_some_iff.1 infoCap
 simp only [Prod.mk.injEq] at heq
 obtain ⟨hz,hsz,hby⟩:=heq
 have hinfo:(Tryz.prog.info? 80).map (·.size)=some 2:=by rw [hi0];simp [hsz]
 obtain ⟨W1,W2,cur',hcp1,hcp2,hr3,hrs,htk,hg3⟩:=ins_room Tryz.prog 29 80 2 Tryz.underlying29 hinfo g n c i cur cs W hc hs hi hroom hcl h1 h1c
 have hgW:g<W.heap.size:=blk_lt hc
 have hv0:(W.alloc (.cells cs.toArray 80)).heap[W.heap.size]? = some (.cells cs.toArray 80 (0,0)):=blk_new _ _
 have hc0:(W.alloc (.cells cs.toArray 80)).heap[g]? = some (.cells cur 80 (0,0)):=blk_alloc hc _
 obtain ⟨w0,hw0⟩:∃ w0,w0=W.alloc (.cells cs.toArray 80):=⟨_,rfl⟩
 rw [← hw0] at hcp1 hg3 hv0 hc0 ⊢
 have hov:∀ lb cb,(callFunc 103 #[.slice (some ⟨W.heap.size,0,none⟩) 1 1, .slice (some ⟨g,(i+1)*2,none⟩) lb cb]).run Tryz.prog w0 = .ok (.value (.bool false)) w0:=fun lb cb=>by
  rw [run_callFunc_extern Tryz.func103 (by kernel_rfl) (by kernel_rfl) (by kernel_rfl) (e:=Extern.SlicesOverlaps.overlaps #[29,29] #[4]) (by kernel_rfl),
   Go.Lib.run_overlaps_apart (P:=Tryz.prog) w0 29 4 80 Tryz.underlying29 2 (fun w=>by simp [Go.sizeOf,typeInfo,hi0,hsz]) ⟨W.heap.size,0,none⟩ ⟨g,(i+1)*2,none⟩ 1 1 lb cb (by simp;omega) 80 80 2 cur.size (by simp [World.shape?,hv0,hcl]) (by simp [World.shape?,hc0]) (by rw [hs];have:0<c*2:=Nat.mul_pos (by omega) (by omega);omega) (blk_frozen hv0 0) (blk_frozen hv0 2)]
  rfl
 have H3:=Lib.hid hr3
 have HT:=Lib.hid htk
 have HRS:=Lib.hid hrs
 have HG:=Lib.hid hg3
 have j1:(i:Int)≤(n:Int):=by omega
 have j2:(i:Int)<(n:Int):=by omega
 have j3:((i:Int) == (n:Int))=false:=by simp;omega
 have j4:IntKind.i64.wrap ((n:Int)+1)=(n:Int)+1:=IntWalk.i64_in _ (by omega)
 have j5:decide ((n:Int)+1 > (c:Int))=false:=decide_eq_false (by omega)
 have j5b:decide ((c:Int)<(n:Int)+1)=false:=decide_eq_false (by omega)
 have j6:(n:Int)+1≤(c:Int):=by omega
 have j7:(i:Int)≤(n:Int)+1:=by omega
 have j8:(i:Int)+1≤(n:Int)+1:=by omega
 have j9:IntKind.i64.wrap ((i:Int)+1)=(i:Int)+1:=IntWalk.i64_in _ (by omega)
 have j10:(0:Int)≤(i:Int)+1:=by omega
 have j11:(0:Int)≤(n:Int)+1:=by omega
 have j12:(n:Int)≤(c:Int):=by omega
 have k2:¬ c=i+1:=by omega
 have k3:¬ c=i:=by omega
 clear hr3 htk hrs hg3 hc hs h1 h1c hi0 hz hsz hby hw0 hcl hv0 hc0 hinfo
 go_enter Tryz.func68,Tryz.ntmps68
 go_upto_region 15 with (simp only [hov])
 go_region_held3 (fun _=>True) (trivial) (first
  | (refine copy_step rfl _ _ 29 29 rfl _ _ (by rfl) (by rfl) (hcp1 _) ?_))
 all_goals
  go_wp2_with (at_builtin;refine copy_list rfl _ _ 29 29 rfl _ _ rfl rfl (hcp2 _) ?_)
  go_ret
  exact ⟨cur',rfl,H3.out,HRS.out,HT.out,HG.out⟩
set_option maxRecDepth 100000 in
set_option maxHeartbeats 4000000 in
theorem insert_caps_end (A:Option Addr) (n c:Nat) (xs:List Cap) (p:Cap) (cs:List Value) (base:Nat) (okp:Nat→Prop) (W:World) (hS:Kd.S k80 80 W base (fun k=>True∧¬ okp k) (.slice A n c) xs) (hp:k80.M W base okp p cs) (hokp:∀ k,okp k→True∧some k≠(Value.slice A n c).ownBlock) (hn:n≤1000) (hbase:base≤W.heap.size) :
  Calls Tryz.prog 68 #[.slice A n c, .int .i64 n, .slice (some ⟨W.heap.size,0,none⟩) 1 1] (W.alloc (.cells cs.toArray 80)) fun e w'=>∃ v,e = .returned v∧Kd.S k80 80 w' base (fun _=>True) v (xs++[p])∧Below base W w'∧W.grownBy w' (Value.slice A n c).ownBlock:=by
 obtain ⟨hnx,hnc,hC⟩:=Kd.S_reads' hS
 have hcm:=C_len hC
 have j1:(n:Int)≤(c:Int):=by omega
 have HS:=Lib.hid hS
 have HP:=Lib.hid hp
 have HX:=Lib.hid hnx
 clear hS hp hC hnx
 by_cases hcn:n=c
 ·subst hcn
  go_enter Tryz.func68,Tryz.ntmps68
  go_wp2_with (first
   | (at_builtin;refine Kd.S_append k80 (w0:=W) base rfl (.tmp 23) (.tmp 24) 29 80 (.agg #[.string ByteArray.empty, .int .i64 0]) 24 rfl Tryz.underlying29 infoCap rfl (by decide) (by decide) (.slice A n n) xs p cs (fun _=>True) okp rfl rfl HP.out hokp (fun _ _=>trivial) HS.out (Below.refl _ _) hbase (by have:=HX.out;omega) ?_;intro v1 w1 ho hb hg hat)
   | go_in)
  go_ret
  exact ⟨_,rfl,ho,hb,hg⟩
 ·go_enter Tryz.func68,Tryz.ntmps68
  go_wp2_with (first
   | (at_builtin;refine Kd.S_append k80 (w0:=W) base rfl (.tmp 23) (.tmp 24) 29 80 (.agg #[.string ByteArray.empty, .int .i64 0]) 24 rfl Tryz.underlying29 infoCap rfl (by decide) (by decide) (.slice A n c) xs p cs (fun _=>True) okp rfl rfl HP.out hokp (fun _ _=>trivial) HS.out (Below.refl _ _) hbase (by have:=HX.out;omega) ?_;intro v1 w1 ho hb hg hat)
   | go_in)
  go_ret
  exact ⟨_,rfl,ho,hb,hg⟩
theorem insert_caps_any (A:Option Addr) (n c i:Nat) (xs:List Cap) (p:Cap) (cs:List Value) (base:Nat) (okp:Nat→Prop) (W:World) (hS:Kd.S k80 80 W base (fun k=>True∧¬ okp k) (.slice A n c) xs) (hp:k80.M W base okp p cs) (hokp:∀ k,okp k→True∧some k≠(Value.slice A n c).ownBlock) (hi:i≤n) (hn:n≤1000) (hbase:base≤W.heap.size) :
  Calls Tryz.prog 68 #[.slice A n c, .int .i64 i, .slice (some ⟨W.heap.size,0,none⟩) 1 1] (W.alloc (.cells cs.toArray 80)) fun e w'=>∃ v,e = .returned v∧Kd.S k80 80 w' base (fun _=>True) v (insAt i p xs)∧Below base W w'∧W.grownBy w' (Value.slice A n c).ownBlock:=by
 rcases Nat.lt_or_ge i n with hlt | hge
 ·obtain ⟨hnx,_,_⟩:=Kd.S_reads' hS
  obtain ⟨g,e1,hv,hg0,hg1,_,_⟩:=Kd.S_form hS (by omega)
  injection hv with hA _ _
  subst hA
  obtain ⟨_,hb,hgl,hnc,hm,_,cur,hh,hcs,_⟩:=S_cur hS
  have h1c:=S_one hS hh (Nat.succ_pos 1)
  have h1:∀ u∈cs,u.oneCell'=true:=k80.K_one (k80.K_of_M hp)
  have hcl:cs.length=2:=k80.K_len (k80.K_of_M hp)
  have hm':c≤9223372036854775807:=hm
  have hne:∀ k,okp k→True∧k≠g:=fun k hk=>⟨trivial,fun e=>(hokp k hk).2 (by rw [e];rfl)⟩
  rcases Nat.lt_or_ge n c with hrm | hful
  ·refine (insert_caps_room g n c i cur cs W hh hcs hlt hrm hm' hn hcl h1 h1c).mono ?_
   rintro e w' ⟨cur',rfl,hnew,hsz,htk,hg⟩
   have hBW:Below W.heap.size W (W.alloc (.cells cs.toArray 80)):=below_alloc (Below.refl _ _) _
   refine ⟨_,rfl,S_ins (Kd.S_alloc hS _) (blk_alloc hh _) hi (Kd.M_below hp hBW) hne (fun _ _=>trivial) hg hnew hsz hrm hm hb (.inl rfl) htk,(hBW.mono hbase).grown hg (Nat.le_trans hbase hBW.size) (fun k hk=>by injection hk with hk;omega),?_⟩
   exact ⟨hg.os.trans hBW.os,hg.tape.trans hBW.tape,hg.output.trans hBW.output,Nat.le_trans hBW.size hg.size,fun k hk hne=>(hg.block k (Nat.lt_of_lt_of_le hk hBW.size) hne).trans (hBW.block k hk)⟩
  ·obtain rfl:n=c:=by omega
   refine (insert_caps_grow g n i cur cs W hh hcs hlt hn hcl h1 h1c).mono ?_
   rintro e w' ⟨G,cur',rfl,hnew,hsz,hG1,hG2,htk,hB⟩
   exact ⟨_,rfl,S_ins hS hh hi hp hne (fun _ _=>trivial) ⟨hB.os,hB.tape,hB.output,hB.size,fun k hk _=>hB.block k hk⟩ hnew hsz hG1 hG2 (by omega) (.inr (by omega)) htk,hB.mono hbase,⟨hB.os,hB.tape,hB.output,hB.size,fun k hk _=>hB.block k hk⟩⟩
 ·obtain rfl:i=n:=by omega
  have hnx:=(Kd.S_reads' hS).1
  refine (insert_caps_end A i c xs p cs base okp W hS hp hokp hn hbase).mono ?_
  rintro e w' ⟨v,rfl,h,hB,hg⟩
  have e1:insAt i p xs=xs++[p]:=by unfold insAt;rw [hnx,List.take_length,List.drop_length,List.append_nil]
  exact ⟨v,rfl,by rw [e1];exact h,hB,hg⟩
end Go.Proofs.YthcpbojmalgdbaaGreatDoor.Q
