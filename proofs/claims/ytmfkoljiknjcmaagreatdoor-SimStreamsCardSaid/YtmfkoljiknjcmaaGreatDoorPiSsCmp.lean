/-
  The comparison of edges, walked at the machine.
-/
import Derived.Test.YtmfkoljiknjcmaaGreatDoorPiSsPlain
import Derived.Test.YtmfkoljiknjcmaaGreatDoorPiSsStr1
import Derived.WalkKit
import Derived.StillTailTactics
import Derived.Deep.RegionWith
set_option linter.constructorNameAsVariable false
set_option linter.unusedVariables false
set_option linter.unusedSimpArgs false
set_option maxRecDepth 100000
namespace Go.Proofs.YtmfkoljiknjcmaaGreatDoor.Pi
open Go Go.Shelf Go.RowKit Go.Lib Go.Sort PI
set_option maxHeartbeats 4000000 in
theorem or_first(b:Nat)(x y:Int)(W:World)(h0:x≠0)(hx:W.cell? ⟨b,0,none⟩=some (.int .i64 x))(hy:W.cell? ⟨b,1,none⟩=some (.int .i64 y)):Calls Tryz.prog 200 #[.slice (some ⟨b,0,none⟩) 2 2] W λe w'=>e=.returned (.int .i64 x)/\w'=W:=by(have h1:(x !=0)=true:=by simp[h0]);go_enter Tryz.func200,Tryz.ntmps200;go_wp2;refine wp_loop_rounds 1 ?_;rw[rounds_succ];go_wp2;go_ret;exact⟨rfl,rfl⟩
set_option maxHeartbeats 4000000 in
theorem or_zero(b:Nat)(y:Int)(W:World)(h0:y=0\/y≠0)(hx:W.cell? ⟨b,0,none⟩=some (.int .i64 0))(hy:W.cell? ⟨b,1,none⟩=some (.int .i64 y)):Calls Tryz.prog 200 #[.slice (some ⟨b,0,none⟩) 2 2] W λe w'=>e=.returned (.int .i64 y)/\w'=W:=by go_enter Tryz.func200,Tryz.ntmps200;go_wp2;refine wp_loop_rounds 3 ?_;rw[rounds_succ];go_wp2;rw[rounds_succ];rcases h0 with rfl|h0;{go_wp2;rw[rounds_succ];go_wp2;go_ret;exact⟨rfl,rfl⟩};(have h1:(y !=0)=true:=by simp[h0]);go_wp2;go_ret;exact⟨rfl,rfl⟩
theorem or_walk(b:Nat)(x y:Int)(W:World)(c:W.cell? ⟨b,0,none⟩=some (.int .i64 x))(a:W.cell? ⟨b,1,none⟩=some (.int .i64 y)):Calls Tryz.prog 200 #[.slice (some ⟨b,0,none⟩) 2 2] W λe w'=>e=.returned (.int .i64 (if x=0 then y else x))/\w'=W:=by by_cases h:x=0;{subst h;rw[if_pos rfl];exact or_zero b y W (by omega) c a};rw[if_neg h];exact or_first b x y W h c a
theorem pairCmp_or(x y:Int×Int):(if Lib.compareInt x.1 y.1=0 then Lib.compareInt x.2 y.2 else Lib.compareInt x.1 y.1)=pairCmp x y:=by unfold Lib.compareInt pairCmp;(repeat' split)<;>first|rfl|omega
theorem still_tail{P:Program}{id:Nat}{Q:Exit->Act->World->Prop}{a:Act}{w:World}{l:List Oper}(n:Nat)(d:P.follows .mixedOrders=true)(b:Region.lexTailB .any l.toArray n=true)(h:wpStill P l.toArray w.drew (λc=>wpList P l.toArray Q (l.drop n) c w.drew) (l.take n) a):(Code.region id l.toArray true).wp P Q a w:=wp_region_still_tail n d b h
set_option maxHeartbeats 4000000 in
theorem cmp_walk(x y:Int×Int)(W:World):Calls Tryz.prog 199 #[.agg (vPair x).toArray,.agg (vPair y).toArray] W λe w'=>e=.returned (.int .i64 (pairCmp x y))/\∃q os',w'=grow (W.drewN q) os':=by have hcon:=λx y W'=>Any.cmp_Compare_int Tryz.lays122 x y W';change∀x y W',Calls Tryz.prog 201 #[.int .i64 x,.int .i64 y] W' (λe w'=>e=.returned (.int .i64 (Lib.compareInt x y))/\w'=W')at hcon;rw[<-pairCmp_or];obtain⟨x1,x2⟩:=x;obtain⟨y1,y2⟩:=y;simp only;show Calls Tryz.prog 199 #[.agg #[.int .i64 x1,.int .i64 x2],.agg #[.int .i64 y1,.int .i64 y2]] W _;have h1:=hcon x1 y1;have h2:=hcon x2 y2;generalize Lib.compareInt x1 y1=r1 at h1⊢;generalize Lib.compareInt x2 y2=r2 at h2⊢;clear hcon;have hor:=λb W hx hy=>or_walk b r1 r2 W hx hy;generalize hr:(if r1=0 then r2 else r1)=r at hor⊢;clear hr;go_enter Tryz.func199,Tryz.ntmps199;go_wp2;refine still_tail 10 (by kernel_rfl) (by kernel_rfl) ?_;simp only[List.take_succ_cons,List.take_zero,List.drop_succ_cons,List.drop_zero];still_step;still_step;still_step;still_step;still_call(h1 _);still_step;still_step;still_step;still_step;still_call(h2 _);refine wpStill_nil ?_;go_wp2_with fail;refine(hor _ _ ?_ ?_).mono ?_;{simp only[World.cell?_drew];exact World.cell?_alloc_at _ _ _ _ (by simp)};{simp only[World.cell?_drew];exact World.cell?_alloc_at _ _ _ _ (by simp)};rintro e w'⟨rfl,rfl⟩;simp only;go_wp2;go_ret;exact⟨rfl,1,_,by rw[alloc_eq_grow,alloc_eq_grow,alloc_eq_grow,grow_grow,grow_grow];rfl⟩
end Go.Proofs.YtmfkoljiknjcmaaGreatDoor.Pi
