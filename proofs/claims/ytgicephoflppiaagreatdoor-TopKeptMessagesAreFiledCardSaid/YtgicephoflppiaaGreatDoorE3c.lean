/-
  Kct1, Kct2, Kct3: own texts of this repository (wip/tpl, wip/plans), merged and shaken by wip/tools/pack.py.
-/
import Derived.Test.YtgicephoflppiaaGreatDoorProg
import Derived.KernelRfl
import Derived.Test.YtgicephoflppiaaGreatDoorE3b
set_option maxRecDepth 100000
set_option linter.unusedVariables false
set_option linter.unusedSimpArgs false
section
namespace Go.Proofs.YtgicephoflppiaaGreatDoor
open Go Go.RowKit Go.Ph Go.Ph.Pl Go.Ph.Pf
abbrev xenc63 (x:Z07):List Value:=[S x.1,S x.2]
abbrev xenc70 (x:Z02):List Value:=[I x.1,S x.2.1,I x.2.2]
abbrev xenc68 (x:Z0b):List Value:=[S x.1,I x.2]
abbrev xenc80 (x:Z08):List Value:=[I x.1,Value.bool x.2.1,S x.2.2]
abbrev xenc218 (x:Z0d):List Value:=[Value.bool x.1,Value.bool x.2.1,encB x.2.2]
theorem xty25 : ElemTy Tryz.prog 25 63 (.agg #[.string ⟨#[]⟩, .string ⟨#[]⟩]) 2 32:=q1f Tu25 Kr rfl Dc
theorem xone63 :∀(a:Z07),∀u∈xenc63 a,u.oneCell'=true:=by
 intro a u hu;simp only[xenc63,l0H,l0C,or_false] at hu;rcases hu with rfl|rfl <;> rfl
theorem xty26 : ElemTy Tryz.prog 26 5 (.int .u8 0) 1 1:=q1f Tu26 Kr rfl Dc
abbrev _root_.Z0h : Type:=Nat × Nat
theorem xplaces33 :∀{fs:Array Field},Tryz.prog.underlying 33=some (.struct fs)->∀w,(fs.mapM fun f=>do pure (f.offset,←sizeOf f.type):Sem (Array Z0h)).run Tryz.prog w = .ok #[(0,1),(1,1)] w:=by
 intro fs h w;rw[Tu33] at h;cases h;simp
theorem xplaces57 :∀{fs:Array Field},Tryz.prog.underlying 57=some (.struct fs)->∀w,(fs.mapM fun f=>do pure (f.offset,←sizeOf f.type):Sem (Array Z0h)).run Tryz.prog w = .ok #[(0,1),(1,1),(2,3),(5,1),(6,1),(7,1),(8,1)] w:=by
 intro fs h w;rw[Tu57] at h;cases h;simp
theorem xplaces55 :∀{fs:Array Field},Tryz.prog.underlying 55=some (.struct fs)->∀w,(fs.mapM fun f=>do pure (f.offset,←sizeOf f.type):Sem (Array Z0h)).run Tryz.prog w = .ok #[(0,1),(1,1),(2,1)] w:=by
 intro fs h w;rw[Tu55] at h;cases h;simp
abbrev _root_.Z06 : Type:=Int × Hd × Ls × Int × Ls × Int
abbrev xenr88 (f:Z06):List Value:=[I f.1,hv f.2.1,S f.2.2.1,I f.2.2.2.1,S f.2.2.2.2.1,I f.2.2.2.2.2]
theorem xone88r (f:Z06):∀u∈xenr88 f,u.oneCell'=true:=by
 intro u hu;simp only[l0H,l0C,or_false] at hu;rcases hu with rfl|rfl|rfl|rfl|rfl|rfl <;> rfl
def xbdy88 (S:Z06->BT88->Prop)(M:Mem)(f:Z06)(x:BT88):Prop:=f.1=x.out.1/\SlR (Rl.fx 6 xenr88 (fun _=>rfl) xone88r S) M (hv f.2.1) x.out.2.1/\f.2.2.1=x.out.2.2.1/\f.2.2.2.1=x.out.2.2.2.1/\f.2.2.2.2.1=x.out.2.2.2.2.1/\f.2.2.2.2.2=x.out.2.2.2.2.2
theorem xbm88 : Bdy xbdy88:=⟨fun hs l _ _ ⟨f,u,z,E,J,K⟩=>⟨f,SlR.sub hs u l,z,E,J,K⟩⟩
abbrev xrl88 : Rl Z06 BT88 where
 k:=6
 enc:=xenr88
 rel:=gfp xbdy88
 len:=fun _=>rfl
 one:=xone88r
 up:=fun l _ _ h=>gfp.mono xbm88 h l
theorem run88 {M:Mem}{f:Z06}{x:BT88}(h:gfp xbdy88 M f x):f.1=x.out.1/\SlR xrl88 M (hv f.2.1) x.out.2.1/\f.2.2.1=x.out.2.2.1/\f.2.2.2.1=x.out.2.2.2.1/\f.2.2.2.2.1=x.out.2.2.2.2.1/\f.2.2.2.2.2=x.out.2.2.2.2.2 :=
 have⟨u,z,E,J,K,N⟩:=gfp.un xbm88 h
 ⟨u,SlR.conv z (fun _ _ h=>h),E,J,K,N⟩
theorem rmk88 {M:Mem}{f:Z06}{x:BT88}(h:f.1=x.out.1/\SlR xrl88 M (hv f.2.1) x.out.2.1/\f.2.2.1=x.out.2.2.1/\f.2.2.2.1=x.out.2.2.2.1/\f.2.2.2.2.1=x.out.2.2.2.2.1/\f.2.2.2.2.2=x.out.2.2.2.2.2):gfp xbdy88 M f x :=
 have⟨u,z,E,J,K,N⟩:=h
 gfp.mk xbm88 ⟨u,SlR.conv z (fun _ _ h=>h),E,J,K,N⟩
abbrev xrl89 := xrl88
abbrev _root_.Z09 : Type:=Int × Int × Hd × Ls × Int × Ls × Int × Hd × Hd × Int × Ls × Ls × Int
abbrev xenr90 (f:Z09):List Value:=[I f.1,I f.2.1,hv f.2.2.1,S f.2.2.2.1,I f.2.2.2.2.1,S f.2.2.2.2.2.1,I f.2.2.2.2.2.2.1,hv f.2.2.2.2.2.2.2.1,hv f.2.2.2.2.2.2.2.2.1,I f.2.2.2.2.2.2.2.2.2.1,S f.2.2.2.2.2.2.2.2.2.2.1,S f.2.2.2.2.2.2.2.2.2.2.2.1,I f.2.2.2.2.2.2.2.2.2.2.2.2]
theorem xone90r (f:Z09):∀u∈xenr90 f,u.oneCell'=true:=by
 intro u hu;simp only[l0H,l0C,or_false] at hu;rcases hu with rfl|rfl|rfl|rfl|rfl|rfl|rfl|rfl|rfl|rfl|rfl|rfl|rfl <;> rfl
def xbdy90 (S:Z09->BT90->Prop)(M:Mem)(f:Z09)(x:BT90):Prop:=f.1=x.out.1/\f.2.1=x.out.2.1/\SlR xrl89 M (hv f.2.2.1) x.out.2.2.1/\f.2.2.2.1=x.out.2.2.2.1/\f.2.2.2.2.1=x.out.2.2.2.2.1/\f.2.2.2.2.2.1=x.out.2.2.2.2.2.1/\f.2.2.2.2.2.2.1=x.out.2.2.2.2.2.2.1/\SlR (Rl.fx 13 xenr90 (fun _=>rfl) xone90r S) M (hv f.2.2.2.2.2.2.2.1) x.out.2.2.2.2.2.2.2.1/\SlR (Rl.fx 13 xenr90 (fun _=>rfl) xone90r S) M (hv f.2.2.2.2.2.2.2.2.1) x.out.2.2.2.2.2.2.2.2.1/\f.2.2.2.2.2.2.2.2.2.1=x.out.2.2.2.2.2.2.2.2.2.1/\f.2.2.2.2.2.2.2.2.2.2.1=x.out.2.2.2.2.2.2.2.2.2.2.1/\f.2.2.2.2.2.2.2.2.2.2.2.1=x.out.2.2.2.2.2.2.2.2.2.2.2.1/\f.2.2.2.2.2.2.2.2.2.2.2.2=x.out.2.2.2.2.2.2.2.2.2.2.2.2
theorem xbm90 : Bdy xbdy90:=⟨fun hs l _ _ ⟨z,E,J,K,M,N,O,U,V,Y,f,h11,u⟩=>⟨z,E,J.mono l,K,M,N,O,SlR.sub hs U l,SlR.sub hs V l,Y,f,h11,u⟩⟩
abbrev xrl90 : Rl Z09 BT90 where
 k:=13
 enc:=xenr90
 rel:=gfp xbdy90
 len:=fun _=>rfl
 one:=xone90r
 up:=fun l _ _ h=>gfp.mono xbm90 h l
theorem run90 {M:Mem}{f:Z09}{x:BT90}(h:gfp xbdy90 M f x):f.1=x.out.1/\f.2.1=x.out.2.1/\SlR xrl89 M (hv f.2.2.1) x.out.2.2.1/\f.2.2.2.1=x.out.2.2.2.1/\f.2.2.2.2.1=x.out.2.2.2.2.1/\f.2.2.2.2.2.1=x.out.2.2.2.2.2.1/\f.2.2.2.2.2.2.1=x.out.2.2.2.2.2.2.1/\SlR xrl90 M (hv f.2.2.2.2.2.2.2.1) x.out.2.2.2.2.2.2.2.1/\SlR xrl90 M (hv f.2.2.2.2.2.2.2.2.1) x.out.2.2.2.2.2.2.2.2.1/\f.2.2.2.2.2.2.2.2.2.1=x.out.2.2.2.2.2.2.2.2.2.1/\f.2.2.2.2.2.2.2.2.2.2.1=x.out.2.2.2.2.2.2.2.2.2.2.1/\f.2.2.2.2.2.2.2.2.2.2.2.1=x.out.2.2.2.2.2.2.2.2.2.2.2.1/\f.2.2.2.2.2.2.2.2.2.2.2.2=x.out.2.2.2.2.2.2.2.2.2.2.2.2 :=
 have⟨E,J,K,N,O,U,V,Y,Z,h9,u,h11,z⟩:=gfp.un xbm90 h
 ⟨E,J,K,N,O,U,V,SlR.conv Y (fun _ _ h=>h),SlR.conv Z (fun _ _ h=>h),h9,u,h11,z⟩
theorem rmk90 {M:Mem}{f:Z09}{x:BT90}(h:f.1=x.out.1/\f.2.1=x.out.2.1/\SlR xrl89 M (hv f.2.2.1) x.out.2.2.1/\f.2.2.2.1=x.out.2.2.2.1/\f.2.2.2.2.1=x.out.2.2.2.2.1/\f.2.2.2.2.2.1=x.out.2.2.2.2.2.1/\f.2.2.2.2.2.2.1=x.out.2.2.2.2.2.2.1/\SlR xrl90 M (hv f.2.2.2.2.2.2.2.1) x.out.2.2.2.2.2.2.2.1/\SlR xrl90 M (hv f.2.2.2.2.2.2.2.2.1) x.out.2.2.2.2.2.2.2.2.1/\f.2.2.2.2.2.2.2.2.2.1=x.out.2.2.2.2.2.2.2.2.2.1/\f.2.2.2.2.2.2.2.2.2.2.1=x.out.2.2.2.2.2.2.2.2.2.2.1/\f.2.2.2.2.2.2.2.2.2.2.2.1=x.out.2.2.2.2.2.2.2.2.2.2.2.1/\f.2.2.2.2.2.2.2.2.2.2.2.2=x.out.2.2.2.2.2.2.2.2.2.2.2.2):gfp xbdy90 M f x :=
 have⟨E,J,K,N,O,U,V,Y,Z,h9,u,h11,z⟩:=h
 gfp.mk xbm90 ⟨E,J,K,N,O,U,V,SlR.conv Y (fun _ _ h=>h),SlR.conv Z (fun _ _ h=>h),h9,u,h11,z⟩
abbrev xrl91 := xrl90
theorem xplaces91 :∀{fs:Array Field},Tryz.prog.underlying 91=some (.struct fs)->∀w,(fs.mapM fun f=>do pure (f.offset,←sizeOf f.type):Sem (Array Z0h)).run Tryz.prog w = .ok #[(0,1),(1,6),(7,1),(8,1),(9,1),(10,1),(11,1),(12,1)] w:=by
 intro fs h w;rw[Tu91] at h;cases h;simp
theorem xplaces89 :∀{fs:Array Field},Tryz.prog.underlying 89=some (.struct fs)->∀w,(fs.mapM fun f=>do pure (f.offset,←sizeOf f.type):Sem (Array Z0h)).run Tryz.prog w = .ok #[(0,1),(1,1),(2,1),(3,1),(4,1),(5,1)] w:=by
 intro fs h w;rw[Tu89] at h;cases h;simp
theorem xty87 : ElemTy Tryz.prog 87 89 (.agg #[.int .i64 0, .slice none 0 0, .string ⟨#[]⟩, .int .i64 0, .string ⟨#[]⟩, .int .i64 0]) 6 80:=q1f Tu87 Kr rfl Dc
theorem xty31 : ElemTy Tryz.prog 31 91 (.agg #[.int .i64 0, .int .i64 0, .slice none 0 0, .string ⟨#[]⟩, .int .i64 0, .string ⟨#[]⟩, .int .i64 0, .slice none 0 0, .slice none 0 0, .int .i64 0, .string ⟨#[]⟩, .string ⟨#[]⟩, .int .i64 0]) 13 184:=q1f Tu31 Kr rfl Dc
def FnT85 (M:Mem)(v:Value)(g:(UInt8->Option Bool)):Prop :=∀(f:UInt8) (r:Bool),g f=some r->FnV Tryz.prog M v [encB f] (fun v M=>v=Value.bool r)
theorem FnT85.mono {M M':Mem}{v:Value}{g:(UInt8->Option Bool)}(h:FnT85 M v g)(hl:M.le M'):FnT85 M' v g:=fun f r hr=>(h f r hr).mono hl
abbrev xenr31 (f:Hd):List Value:=[hv f]
abbrev xrl31 : Rl Hd (List BT90) where
 k:=1
 enc:=xenr31
 rel M f x:=SlR xrl91 M (hv f) x
 len:=fun _=>rfl
 one:=by
  intro f u hu;simp only[l0H,l0C,or_false] at hu;rcases hu with rfl <;> rfl
 up:=by intro M M' hl f x h;exact h.mono hl
theorem xty95 : ElemTy Tryz.prog 95 31 (.slice none 0 0) 1 24:=q1f Tu95 Kr rfl Dc
theorem xplaces47 :∀{fs:Array Field},Tryz.prog.underlying 47=some (.struct fs)->∀w,(fs.mapM fun f=>do pure (f.offset,←sizeOf f.type):Sem (Array Z0h)).run Tryz.prog w = .ok #[(0,1),(1,1),(2,1),(3,1),(4,1)] w:=by
 intro fs h w;rw[Tu47] at h;cases h;simp
theorem xty45 : ElemTy Tryz.prog 45 9 (.string ⟨#[]⟩) 1 16:=q1f Tu45 Kr rfl Dc
theorem xeq70 (u z:Int)(E J:Ls)(K M:Int)(w:World):(Op.equalIn 10000 70 (.agg #[.int .i64 u,S E, .int .i64 K]) (.agg #[.int .i64 z,S J, .int .i64 M])).run Tryz.prog w = .ok (decide (u=z/\E=J/\K=M)) w:=by
 rw[run_equalIn_struct w 9999 70 _ _ (by rw[Program.fieldsOf,Tu70]) Kr];rw[Program.fieldsOf,Tu70];by_cases f:u=z
 rotate_left
 · simp [Op.eqFields,part,f,Ta3,Ta9,run_equalIn_int _ _ _ _ _ _ _ Tu3,run_equalIn_string _ _ _ _ _ Tu9]
 by_cases N:E=J
 rotate_left
 · simp [Op.eqFields,part,f,N,Ta3,Ta9,run_equalIn_int _ _ _ _ _ _ _ Tu3,run_equalIn_string _ _ _ _ _ Tu9]
 by_cases O:K=M
 rotate_left
 · simp [Op.eqFields,part,f,N,O,Ta3,Ta9,run_equalIn_int _ _ _ _ _ _ _ Tu3,run_equalIn_string _ _ _ _ _ Tu9]
 simp [Op.eqFields,part,f,N,O,Ta3,Ta9,run_equalIn_int _ _ _ _ _ _ _ Tu3,run_equalIn_string _ _ _ _ _ Tu9]
theorem xty71 : ElemTy Tryz.prog 71 4 (.bool false) 1 1:=q1f Tu71 Kr rfl Dc
theorem xplaces106 :∀{fs:Array Field},Tryz.prog.underlying 106=some (.struct fs)->∀w,(fs.mapM fun f=>do pure (f.offset,←sizeOf f.type):Sem (Array Z0h)).run Tryz.prog w = .ok #[(0,1),(1,1),(2,1),(3,1)] w:=by
 intro fs h w;rw[Tu106] at h;cases h;simp
theorem xplaces70 :∀{fs:Array Field},Tryz.prog.underlying 70=some (.struct fs)->∀w,(fs.mapM fun f=>do pure (f.offset,←sizeOf f.type):Sem (Array Z0h)).run Tryz.prog w = .ok #[(0,1),(1,1),(2,1)] w:=by
 intro fs h w;rw[Tu70] at h;cases h;simp
theorem xty39 : ElemTy Tryz.prog 39 70 (.agg #[.int .i64 0, .string ⟨#[]⟩, .int .i64 0]) 3 32:=q1f Tu39 Kr rfl Dc
theorem xone70 :∀(a:Z02),∀u∈xenc70 a,u.oneCell'=true:=by
 intro a u hu;simp only[xenc70,l0H,l0C,or_false] at hu;rcases hu with rfl|rfl|rfl <;> rfl
def FnT75 (M:Mem)(v:Value)(g:(Z02->Option Bool)):Prop :=∀(f:Z02) (r:Bool),g f=some r->FnV Tryz.prog M v [Value.agg #[I f.1,S f.2.1,I f.2.2]] (fun v M=>v=Value.bool r)
theorem FnT75.mono {M M':Mem}{v:Value}{g:(Z02->Option Bool)}(h:FnT75 M v g)(hl:M.le M'):FnT75 M' v g:=fun f r hr=>(h f r hr).mono hl
def FnT172 (M:Mem)(v:Value)(g:(Z0b->Option Bool)):Prop :=∀(f:Z0b) (r:Bool),g f=some r->FnV Tryz.prog M v [Value.agg #[S f.1,I f.2]] (fun v M=>v=Value.bool r)
theorem FnT172.mono {M M':Mem}{v:Value}{g:(Z0b->Option Bool)}(h:FnT172 M v g)(hl:M.le M'):FnT172 M' v g:=fun f r hr=>(h f r hr).mono hl
theorem xplaces115 :∀{fs:Array Field},Tryz.prog.underlying 115=some (.struct fs)->∀w,(fs.mapM fun f=>do pure (f.offset,←sizeOf f.type):Sem (Array Z0h)).run Tryz.prog w = .ok #[(0,5),(5,1),(6,1),(7,1),(8,1)] w:=by
 intro fs h w;rw[Tu115] at h;cases h;simp
theorem xplaces80 :∀{fs:Array Field},Tryz.prog.underlying 80=some (.struct fs)->∀w,(fs.mapM fun f=>do pure (f.offset,←sizeOf f.type):Sem (Array Z0h)).run Tryz.prog w = .ok #[(0,1),(1,1),(2,1)] w:=by
 intro fs h w;rw[Tu80] at h;cases h;simp
theorem xplaces218 :∀{fs:Array Field},Tryz.prog.underlying 218=some (.struct fs)->∀w,(fs.mapM fun f=>do pure (f.offset,←sizeOf f.type):Sem (Array Z0h)).run Tryz.prog w = .ok #[(0,1),(1,1),(2,1)] w:=by
 intro fs h w;rw[Tu218] at h;cases h;simp
theorem xty200 : ElemTy Tryz.prog 200 218 (.agg #[.bool false, .bool false, .int .u8 0]) 3 3:=q1f Tu200 Kr rfl Dc
theorem xone218 :∀(a:Z0d),∀u∈xenc218 a,u.oneCell'=true:=by
 intro a u hu;simp only[xenc218,l0H,l0C,or_false] at hu;rcases hu with rfl|rfl|rfl <;> rfl
abbrev xenr71 (f:Hd):List Value:=[hv f]
abbrev xrl71 : Rl Hd (List Bool) where
 k:=1
 enc:=xenr71
 rel M f x:=Sl M encBo (hv f) x
 len:=fun _=>rfl
 one:=by
  intro f u hu;simp only[l0H,l0C,or_false] at hu;rcases hu with rfl <;> rfl
 up:=by intro M M' hl f x h;exact h.mono hl
theorem xty220 : ElemTy Tryz.prog 220 71 (.slice none 0 0) 1 24:=q1f Tu220 Kr rfl Dc
theorem xty42 : ElemTy Tryz.prog 42 80 (.agg #[.int .i64 0, .bool false, .string ⟨#[]⟩]) 3 32:=q1f Tryz.underlying42 Kr rfl Dc
theorem xone80 :∀(a:Z08),∀u∈xenc80 a,u.oneCell'=true:=by
 intro a u hu;simp only[xenc80,l0H,l0C,or_false] at hu;rcases hu with rfl|rfl|rfl <;> rfl
theorem xplaces63 :∀{fs:Array Field},Tryz.prog.underlying 63=some (.struct fs)->∀w,(fs.mapM fun f=>do pure (f.offset,←sizeOf f.type):Sem (Array Z0h)).run Tryz.prog w = .ok #[(0,1),(1,1)] w:=by
 intro fs h w;rw[Tu63] at h;cases h;simp
theorem xplaces28 :∀{fs:Array Field},Tryz.prog.underlying 28=some (.struct fs)->∀w,(fs.mapM fun f=>do pure (f.offset,←sizeOf f.type):Sem (Array Z0h)).run Tryz.prog w = .ok #[(0,1),(1,1)] w:=by
 intro fs h w;rw[Tu28] at h;cases h;simp
def FnT97 (M:Mem)(v:Value)(g:(Ls->Option Bool)):Prop :=∀(f:Ls) (r:Bool),g f=some r->FnV Tryz.prog M v [S f] (fun v M=>v=Value.bool r)
theorem FnT97.mono {M M':Mem}{v:Value}{g:(Ls->Option Bool)}(h:FnT97 M v g)(hl:M.le M'):FnT97 M' v g:=fun f r hr=>(h f r hr).mono hl
abbrev xenr25 (f:Hd):List Value:=[hv f]
abbrev xrl25 : Rl Hd (List Z07) where
 k:=1
 enc:=xenr25
 rel M f x:=SlS M 2 xenc63 (hv f) x
 len:=fun _=>rfl
 one:=by
  intro f u hu;simp only[l0H,l0C,or_false] at hu;rcases hu with rfl <;> rfl
 up:=by intro M M' hl f x h;exact h.mono hl
theorem xty165 : ElemTy Tryz.prog 165 25 (.slice none 0 0) 1 24:=q1f Tu165 Kr rfl Dc
theorem xplaces68 :∀{fs:Array Field},Tryz.prog.underlying 68=some (.struct fs)->∀w,(fs.mapM fun f=>do pure (f.offset,←sizeOf f.type):Sem (Array Z0h)).run Tryz.prog w = .ok #[(0,1),(1,1)] w:=by
 intro fs h w;rw[Tu68] at h;cases h;simp
theorem xty22 : ElemTy Tryz.prog 22 68 (.agg #[.string ⟨#[]⟩, .int .i64 0]) 2 24:=q1f Tu22 Kr rfl Dc
theorem xplaces24 :∀{fs:Array Field},Tryz.prog.underlying 24=some (.struct fs)->∀w,(fs.mapM fun f=>do pure (f.offset,←sizeOf f.type):Sem (Array Z0h)).run Tryz.prog w = .ok #[(0,1),(1,1),(2,1)] w:=by
 intro fs h w;rw[Tu24] at h;cases h;simp
theorem xplaces30 :∀{fs:Array Field},Tryz.prog.underlying 30=some (.struct fs)->∀w,(fs.mapM fun f=>do pure (f.offset,←sizeOf f.type):Sem (Array Z0h)).run Tryz.prog w = .ok #[(0,3),(3,2)] w:=by
 intro fs h w;rw[Tu30] at h;cases h;simp
theorem xeq33 (f u:Int)(z E:Int)(w:World):(Op.equalIn 10000 33 (.agg #[.int .i64 f, .int .i64 z]) (.agg #[.int .i64 u, .int .i64 E])).run Tryz.prog w = .ok (decide (f=u/\z=E)) w:=by
 rw[run_equalIn_struct w 9999 33 _ _ (by rw[Program.fieldsOf,Tu33]) Kr];rw[Program.fieldsOf,Tu33];by_cases J:f=u
 rotate_left
 · simp [Op.eqFields,part,J,Ta3,run_equalIn_int _ _ _ _ _ _ _ Tu3]
 by_cases K:z=E
 rotate_left
 · simp [Op.eqFields,part,J,K,Ta3,run_equalIn_int _ _ _ _ _ _ _ Tu3]
 simp [Op.eqFields,part,J,K,Ta3,run_equalIn_int _ _ _ _ _ _ _ Tu3]
theorem bytesOf_nats (l:Ls):Lib.bytesOf (l.map fun u=>(u.toNat:Int))=l:=by
 unfold Lib.bytesOf;rw[l1A]
 conv=>rhs;rw [←List.map_id l]
 apply l1K;intro u _;simp
theorem indexByte_ixB (l:Ls)(c:UInt8):Lib.indexByte l c=ixB l c:=by
 unfold ixB;induction l with
 | nil=>simp [Lib.indexByte]
 | cons b l ih =>
   simp only[Lib.indexByte,List.idxOf_cons,l03];by_cases h:b=c
   · subst h;simp
   have h':(b == c)=false:=by simpa using h
   rw[h',ih];simp only[l0e,if_false,cond_false];by_cases hl:l.idxOf c<l.length
   · have f:l.idxOf c+1<l.length+1:=by omega
     have u :¬(((l.idxOf c:Int) == -1)=true):=by simp only[beq_iff_eq];omega
     simp only[hl,f,if_true,u,if_false,l0e];omega
   have f :¬(l.idxOf c+1<l.length+1):=by omega
   simp only[hl,f,if_false];rfl
theorem join_jn (sep:Ls):∀l:List Ls,Lib.join l sep=jn sep l
 | []=>rfl
 | [x]=>Lib.join_one x sep
 | x::y::r=>by
   have h:=join_jn sep (y::r);rw[Lib.join_cons] at h ⊢;rw[jn,←h];simp [Lib.joinTail]
theorem Y2B {f:Ls}{u:UInt8}{r:Int}(h:Y0K f u=some r):Ct Tryz.prog 27 [S f,encB u] (fun M=>True) (fun v M=>v=I r):=by
 cases h;refine⟨enters Tf27 Kr G,fun w M ha hp=>?_⟩;exact(Tryz.strings_IndexByte ⟨f.toArray⟩ (u.toNat:Int) w).mono fun e w' ⟨he,hw⟩=>⟨_,M,he,by subst hw;exact q1t ha,by rw[←indexByte_ixB];simp⟩
theorem Y4Z {f:Ls}{u:UInt8}{r:Int}(h:Y1T f u=some r):Ct Tryz.prog 47 [S f,encB u] (fun M=>True) (fun v M=>v=I r):=by
 cases h;refine⟨enters Tf47 Kr G,fun w M ha hp=>?_⟩;exact(Tryz.stringslite_IndexByte ⟨f.toArray⟩ (u.toNat:Int) w).mono fun e w' ⟨he,hw⟩=>⟨_,M,he,by subst hw;exact q1t ha,by rw[←indexByte_ixB];simp⟩
theorem Y6w {f:List Ls}{z:Ls}{E:Value}{r:Ls}(h:Y3o f z=some r):Ct Tryz.prog 66 [E,S z] (fun M=>Sl M encS E f) (fun v M=>v=S r):=by
 unfold Y3o at h;split at h
 case isFalse=>cases h
 rename_i hb;cases h;refine⟨enters Tryz.func66 Kr G,fun w M ha hp=>?_⟩;obtain⟨A,cp,rfl,hc,hn⟩:=Sl.cells hp ha;rcases l1B f.length with u|u
 · obtain rfl:=l05 u;exact(Tryz.strings_Join_none A cp ⟨z.toArray⟩ w).mono fun e w' ⟨he,hw⟩=>⟨_,M,he,by subst hw;exact q1t ha,rfl⟩
 cases A with
 | none=>obtain⟨rfl,_⟩:=hn rfl;simp at u
 | some ad =>
   obtain⟨A',c',he',J,⟨U,V⟩,K⟩:=hp;cases he';obtain⟨b,o,cs,Y,fz,N,O,Z⟩:=K (fun h=>by rw[h] at u;simp at u);cases N;have hmap:(f.map (fun l=>(⟨l.toArray⟩:ByteArray))).map (·.data.toList)=f:=by
    rw[l1A]
    conv=>rhs;rw [←List.map_id f]
    exact l1K (fun l _=>G)
   have hcall:=Tryz.strings_Join b o cp (f.map (fun l=>(⟨l.toArray⟩:ByteArray))) ⟨z.toArray⟩ w (fun j x hx=>by
    rw[List.getElem?_map] at hx;obtain⟨y,hy,rfl⟩:=Option.map_eq_some_iff.1 hx;have:=hc ⟨b,o,none⟩ rfl j (encS y) (by rw[List.getElem?_map,hy];rfl);simpa [Addr.add_lit] using this) (ha.lt O) (by simpa using hb.1) (by simpa using J) (by rw[hmap,join_jn];simpa using hb.2)
   rw[hmap,join_jn] at hcall;simp only[l0g] at hcall;exact hcall.mono fun e w' ⟨he,hw⟩=>⟨_,M,he,⟨BelowX.of hw _,Mem.le.refl M,fun b' o' hb'=>by rw[hw.block b' (ha.lt hb')];exact ha b' o' hb',fun b' hb'=>rfl⟩,by simp⟩
theorem strconv_Itoa_ct {f : Int}{r : Ls}(h : strconv_Itoa f = some r): Ct Tryz.prog 133 [I f] (fun M => GlF (fun w => Lib.TabIs Tryz.prog w "internal/strconv.uint64pow10" .u64 Lib.pow10Tab) M) (fun v M => v = S r) := by
 unfold strconv_Itoa at h;split at h
 case isFalse=>cases h
 rename_i hb;cases h;refine⟨enters Tf133 Kr G,fun w M ha hp=>?_⟩;exact(Tryz.strconv_Itoa f hb.1 hb.2 w (hp w ha)).mono fun e w' ⟨he,k,os,hw⟩=>⟨_,M,he,by subst hw;exact q1z ha (below_grow w k os),by rw[itoaP_eq hb]⟩
theorem Y0M {f:Ls}{u:Int}{r:Ls}(h:Y2U f u=some r):Ct Tryz.prog 121 [S f,I u] (fun M=>True) (fun v M=>v=S r):=by
 unfold Y2U at h;split at h
 case isFalse=>cases h
 rename_i hb;cases h;refine⟨enters Tryz.func121 Kr G,fun w M ha hp=>?_⟩;obtain⟨c,rfl⟩:=l0m hb.1;exact(Tryz.strings_Repeat ⟨f.toArray⟩ c w Om (by simpa [ByteArray.size] using hb.2.2)).mono fun e w' ⟨he,hw⟩=>⟨_,M,he,q1z ha hw,by simp⟩
theorem strconv_Atoi_ct {f : Ls}{r : Z0v}(h : strconv_Atoi f = some r): Ct Tryz.prog 136 [S f] (fun M => GlF (fun w => ∃ tp p, w.var? Tryz.prog "strconv.ErrRange" = some #[.iface tp p]) M /\ GlF (fun w => ∃ tp p, w.var? Tryz.prog "strconv.ErrSyntax" = some #[.iface tp p]) M) (fun v M => ∃ u, v = Value.tuple #[I r.1, u] /\ NilB M u r.2) := by
 unfold strconv_Atoi at h;split at h
 case isFalse=>cases h
 rename_i hb;cases h;refine⟨enters Tryz.func136 Kr G,fun w M ha hp=>?_⟩;obtain⟨hpR,hpS⟩:=hp;have hsz:(⟨f.toArray⟩:ByteArray).size=f.length:=by simp [ByteArray.size]
 unfold atoiP;cases hc:Lib.atoiAll f with
 | ok v =>
   exact(Tryz.strconv_Atoi_ok ⟨f.toArray⟩ Om v (by simpa using hc) w).mono fun e w' ⟨he,hw⟩=>⟨_,M,he,by
    rcases hw with rfl|⟨t,rfl⟩
    · exact q1t ha
    exact q1z ha (Lib.bytesWorld_below w _ t),⟨_,G, .inl ⟨G,G⟩⟩⟩
 | range =>
   obtain⟨tp,p,hv⟩:=hpR w ha;exact(Tryz.strconv_Atoi_range_var ⟨f.toArray⟩ Om (by simpa using hc) tp p w hv).mono fun e w' ⟨n,he,_,_,hw⟩=>⟨_,M,he,q1z ha hw,⟨_,rfl, .inr ⟨rfl,_,_,rfl⟩⟩⟩
 | _ =>
   obtain⟨tp,p,hv⟩:=hpS w ha;exact(Tryz.strconv_Atoi_syntax_var ⟨f.toArray⟩ Om (by simpa using hc) tp p w hv).mono fun e w' ⟨n,he,_,_,hw⟩=>⟨_,M,he,q1z ha hw,⟨_,rfl, .inr ⟨rfl,_,_,rfl⟩⟩⟩
theorem Y4F {f:Ls}{u:Ls}{r:Bool}(h:Y0P f u=some r):Ct Tryz.prog 149 [S f,S u] (fun M=>GlF (fun w =>∃m,w.cell? ⟨0,0,none⟩=some (.int .i64 m)) M) (fun v M=>v=Value.bool r):=by
 unfold Y0P at h;split at h
 case isFalse=>cases h
 rename_i hb;cases h;refine⟨enters Tryz.func149 Kr G,fun w M ha hp=>?_⟩;obtain⟨m,hm⟩:=hp w ha;exact(Tryz.strings_Contains ⟨f.toArray⟩ ⟨u.toArray⟩ m w (by simpa [ByteArray.size] using hb) hm).mono fun e w' ⟨he,hw⟩=>⟨_,M,he,by subst hw;exact q1t ha,rfl⟩
theorem Y5z {f:Ls}{u:Ls}{r:Int}(h:Y1r f u=some r):Ct Tryz.prog 154 [S f,S u] (fun M=>GlF (fun w =>∃m,w.cell? ⟨0,0,none⟩=some (.int .i64 m)) M) (fun v M=>v=I r):=by
 unfold Y1r at h;split at h
 case isFalse=>cases h
 rename_i hb;cases h;refine⟨enters Tf154 Kr G,fun w M ha hp=>?_⟩;obtain⟨m,hm⟩:=hp w ha;exact(Tryz.stringslite_Index ⟨f.toArray⟩ ⟨u.toArray⟩ m w (by simpa [ByteArray.size] using hb) hm).mono fun e w' ⟨he,hw⟩=>⟨_,M,he,by subst hw;exact q1t ha,rfl⟩
theorem copyCheck_ct {b:Nat}{p v:Value}{M0:Mem}(hb:BPM M0 b p):CtX Tryz.prog 122 [ptr b 0] [.blk b (.cells #[p,v] 157)] (fun _=>True) (fun r _ its=>r = .tuple #[]/\its=[.blk b (.cells #[ptr b 0,v] 157)]):=by
 refine q0T Tf122 (enters Tf122 Kr G) G G G ?_;intro w M H _;obtain⟨j,hj,hjs⟩:=Option.map_eq_some_iff.1 (show(Tryz.prog.info? 157).map (·.size)=some 2 by kernel_rfl);have hl:liesAt Tryz.prog Tryz.prog.depth 157 (2 / Tryz.prog.cellsOf 157) 0 157 1=true:=by kernel_rfl
 have hbk:=H.blk (List.Mem.head _);refine WC.seq (WC.region ?_);refine MV G G (FN G G Tu157 G Ts155 G G (ST (XL H Ta155) G ?_));rcases hb with rfl|rfl
 · refine q0D (Ex.ptrNil Tu155 G) (q00 G) G G ?_;refine q0c (WQ.then (WC.condT G (WC.region ?_)));refine MV G G (MV G G (ST (Ex.toUnsafe Tu155 Tu197 hj (by rw[hjs];decide) (T:=157) (cells:=2) (a:=⟨b,0,none⟩) (by simp [World.shape?,hbk]) (by show(0:Nat)<2;decide) G) G ?_));refine ST (Ex.noEscape Tryz.func145 Kr Kr Kr Kr G) G (ST (Ex.fromUnsafe Tu197 Tu155 hj (T:=157) (cells:=2) (a:=⟨b,0,none⟩) (by simp [World.shape?,hbk]) hl G) G ?_);refine FN G G Tu157 G Ts155 G G (q0J [_,_] H G G ⟨G,G⟩ Ku Kf Ts155 (by first|decide|(simp;done)|(simp;omega)) (q00 G) ?_);intro w H;refine NL ?_;exact q1e G H Kp ⟨G,G⟩
 refine q0D (Ex.ptrNil Tu155 G) (q00 G) G G ?_;refine q0c (WQ.then (WC.condF G (WC.seq (WC.region ?_))));refine MV G G (FN G G Tu157 G Ts155 G G (ST (XL H Ta155) G ?_));refine MV G G (ST (Ex.ptrNeqSame Tu155 hj G G) G ?_);refine q0c (WQ.then (WC.condF G (WC.skip ?_)));exact q1e G H Kp ⟨G,G⟩
theorem Y5A {f:Int}{r:List Z07}(h:Y3N f=some r):CtO Tryz.prog 101 [Value.slice none 0 0,I f] (fun M=>True) (fun v M its =>∃u,v=u/\its=[RowS 63 2 xenc63 u r]):=by
 unfold Y3N at h;split at h
 case isFalse=>cases h
 rename_i hb;cases h;refine CtO.of Tryz.func101 (enters Tryz.func101 Kr G) G G G ?_;intro N M0 H _;have z:decide (f<0)=false:=by rw[decide_eq_false_iff_not];omega
 have E:decide (0<f)=true:=by rw[decide_eq_true_iff];omega
 have J:chk ((0:Nat)-(0:Nat):Int)=some 0:=by decide
 have K:chk (f-0)=some f:=by unfold chk;rw [if_pos Om];congr 1;omega
 refine SQ (RG (AS G G (NL (TN (SQ (SQ (RG (MV G G (ST (q0n G G) G (NL (TN (WC.condF (by rw[z];rfl) ?_))))))))))));refine SK (TN (SQ (SQ (RG (MV G G (MV G G (ST (Ex.capSlice Tu25 G) G (MV G G (ST (q1v Tu25 G) G (ST (q0W G G J) G (ST (q0W G G K) G (AS G G (NL (TN (SQ (RG (MV G G (ST (q0H G G) G (NL (TN (WC.condT (by rw[E];rfl) ?_)))))))))))))))))))));refine RG (MV G G (MV G G (ST (Ex.capSlice Tu25 G) G (ST (Ex.sliceRow (kk:=2) (i:=0) (j:=0) Tu25 Ts63 G (l07 _) (l07 _) (l07 _) (.inr ⟨G,G⟩) (.inl ⟨_,G,G⟩)) G (MV G G (WR.appZeros xty25 G xenc63 G Tu3 hb H G G (q00 G) G ?_))))));intro b nn cp w hcp H;refine MV G G (ST (q1v Tu25 G) G (ST (Ex.slice0 Tu25 Ts63 G G hcp) G (AS G G (NL (TN (SQ (RG (MV G G (AS G G (NL (TN (RT ?_))))))))))));exact WQ.ret1O G G H (List.Sublist.refl _) ⟨_,G,G⟩
theorem Y0J {z:Ls}{f:Value}{r:Ls}(h:Y3O z=some r):Ct Tryz.prog 70 [f] (fun M=>Sl M encB f z) (fun v M=>Sl M encB v r):=by
 unfold Y3O at h;refine Ct.of Tryz.func70 (enters Tryz.func70 Kr G) G G G ?_;intro E M0 H u;refine SQ (RG (AS G G (NL (TN (SQ (SQ ?_))))));rcases Sl.nilOr u with ⟨rfl,rfl⟩|⟨a,c,rfl⟩
 · refine WC.region ?_;refine MV G G (ST (Ex.eqlNilS Tu26 G) G (NL (TN (CT G (SQ (RG (AS G G (NL (TN (RT ?_))))))))));obtain⟨_,rfl⟩:=app_some h;exact q08 G G H.ext (q0L _ _)
 refine WC.region ?_;refine MV G G (ST (Ex.eqlNilS Tu26 G) G (NL (TN (CF G (SK (TN (SQ (RG (WR.litE xty26 (fun x=>[encB x]) H (q00 G) G ?_)))))))));intro J w H;have hfm :∀l:Ls,l.flatMap (fun x=>[encB x])=l.map encB:=fun l=>by induction l with|nil=>rfl|cons a l ih=>simp [ih]
 replace H:St E M0 _ [RowI 5 encB J []] w:=H;refine MV G G (q1d (l:=[]) xty26 G (fun _=>G) H G (fun _=>by repeat first|exact .head|apply Upd.tail) G u h (q00 G) G ?_);intro K w H;refine AS G G (NL (TN (RT ?_)));obtain⟨M,N,hf,H⟩:=H.freezeRow (v:=K) (enc:=encB) (t:=5) Kv;exact q08 G G H.ext hf
theorem Y6M {z:Ls}{f:Ls}{E:Value}{J:Value}{r:Int}(h:Y5O z f=some r):Ct Tryz.prog 160 [E,J] (fun M=>GlF (fun w =>∃m,w.cell? ⟨0,0,none⟩=some (.int .i64 m)) M/\Sl M encB E z/\Sl M encB J f) (fun v M=>v=I r):=by
 unfold Y5O at h;split at h
 case isFalse=>cases h
 rename_i hb;cases h;refine⟨enters Tryz.func160 Kr G,fun w M ha hp=>?_⟩;obtain⟨hm,K,U⟩:=hp;obtain⟨m,hm⟩:=hm w ha;have hcap :∃A c,E = .slice A z.length c/\z.length<=c:=by obtain⟨A,c,hv,h1,_⟩:=K;exact ⟨A,c,hv,h1⟩
 obtain⟨A0,cq,N,hcq⟩:=hcap;obtain⟨A1,c1,V,Y,Z⟩:=Sl.cells K ha;obtain⟨A2,c2,rfl,a3,a4⟩:=Sl.cells U ha;rw[N] at V;cases V;subst N;have hR :∀l:Ls,∀x∈l.map (fun u=>(u.toNat:Int)),0<=x/\x<256:=fun l x hx=>by
  obtain⟨u,_,rfl⟩:=List.mem_map.1 hx;exact⟨l1o _,by have:=u.toNat_lt;omega⟩
 cases A2 with
 | none=>have:=(a4 rfl).1;rw [this] at hb;simp at hb
 | some O =>
   cases A0 with
   | none =>
     obtain⟨rfl,rfl⟩:=Z rfl;have hi:Lib.index [] f = -1:=by
      unfold Lib.index;rw[if_neg];cases f with
      | nil=>simp at hb
      | cons a l=>simp
     exact(Tryz.bytes_Index_longer none (some O) 0 0 f.length c2 w Om Om Om).mono fun e w' ⟨he,hw⟩=>⟨_,M,he,by subst hw;exact q1t ha,by rw[hi]⟩
   | some a1 =>
     refine(Tryz.bytes_Index_at a1 O z.length cq f.length c2 (z.map fun u=>(u.toNat:Int)) (f.map fun u=>(u.toNat:Int)) m w Sm Sm (hR _) (hR _) (fun j hj=>?_) (fun j hj=>?_) hcq hb.1 Om hm).mono fun e w' ⟨he,q,hw⟩=>⟨_,M,he,by subst hw;exact Ext.ofDrawn ha q,by rw[bytesOf_nats,bytesOf_nats]⟩
     · have:=Y a1 rfl j (encB z[j]) (by simp [hj]);rw[this];simp [hj]
     have:=a3 O rfl j (encB f[j]) (by simp [hj]);rw[this];simp [hj]
theorem Y6b {s sep:Value}(E:s.cells = #[s])(J:sep.cells = #[sep]){k:Int}:CtX Tryz.prog 140 [s,sep,I k] [] (fun _=>True) (fun v M its =>∃f u z,v = .func (.func 158) #[] #[ptr f 0,ptr u 0,ptr z 0]/\its=[.blk f (.cells #[sep] 26), .blk u (.cells #[s] 26), .blk z (.cells #[I k] 3)]):=by
 refine q0T Tryz.func140 (enters Tryz.func140 Kr G) G G G ?_;intro K M0 H _;refine SQ (RG (q0I [s] H G E (q00 G) G ?_));intro u w H;refine q0I [sep] H G J (q00 G) G ?_;intro f w H;refine q0I [_] H G G (q00 G) G ?_;intro z w H;refine AS G G (NL (TN (SQ (RG (ST (q1m G) G (AS G G (NL (TN (RT ?_)))))))));exact q0x (its:=[.blk f (.cells #[sep] 26), .blk u (.cells #[s] 26), .blk z (.cells #[I k] 3)]) G G H Kp ⟨_,_,_,G,G⟩
theorem Y6c {s sep:Value}(E:s.cells = #[s])(J:sep.cells = #[sep]):CtX Tryz.prog 119 [s,sep] [] (fun _=>True) (fun v M its =>∃f u z,v = .func (.func 158) #[] #[ptr f 0,ptr u 0,ptr z 0]/\its=[.blk f (.cells #[sep] 26), .blk u (.cells #[s] 26), .blk z (.cells #[I 0] 3)]):=by
 refine q0T Tryz.func119 (enters Tryz.func119 Kr G) G G G ?_;intro N M0 H _;refine SQ (RG (AS G G (NL (TN (SQ (RG (MV G G (MV G G (WR.callX (A:=[]) (B:=[]) H (Y6b E J) (Spl.all _) G trivial (q00 G) G ?_)))))))));intro O M w its H K hR;obtain⟨f,u,z,rfl,rfl⟩:=hR;simp only[l01,l02] at H;refine AS G G (NL (TN (RT ?_)));exact q0x (its:=[.blk f (.cells #[sep] 26), .blk u (.cells #[s] 26), .blk z (.cells #[I 0] 3)]) G G H Kp ⟨_,_,_,G,G⟩
theorem Y55 {N:Ls}{O:Ls}{r:Bool}(h:Y0W N O=some r):Ct Tryz.prog 132 [S N,S O] (fun M=>True) (fun v M=>v=Value.bool r):=by
 refine Ct.of Tryz.func132 (enters Tryz.func132 Kr G) G G G ?_;intro U M0 H hp;unfold Y0W at h;refine SQ (RG (AS G G (NL (TN (SQ ?_)))));obtain⟨V,f,h⟩:=bnd h;refine q07 (fun e w =>∃(z:Bool) (M:Mem),e=[(4,Value.bool z)]/\St U M0 M [] w/\some z=some V) [] ?_ ?_ (trivial)
 ·
  obtain⟨E,J,f⟩:=bnd f;refine RG (MV G G (ST (q0G Tu9 G G J) G ?_));by_cases u:48<=E.toNat
  ·
   rw[if_pos u] at f;obtain⟨Y,K,f⟩:=bnd f;refine DT u (q0K (i:=E.toNat) (j:=48) G G) G (MV G G (SG (q02 G) G G G (SG (q0G Tu9 G G K) G G G (SG (q0X (i:=Y.toNat) (j:=57) G G) G G G (PT G G G (AS G G (NL ?_)))))));exact MN ⟨_,_,G,H,f⟩
  rw[if_neg u] at f;refine DF u (q0K (i:=E.toNat) (j:=48) G G) G (MV G G (q06 3 G G (PF G G G (AS G G (NL ?_)))));exact MN ⟨_,_,G,H,f⟩
 rintro e w ⟨z,M,rfl,H,Z⟩;obtain rfl:=oI Z;refine TN (RT ?_);obtain rfl:=oI h;exact q08 G G H.ext G
theorem Y5Z {bm:Nat}{m f:MapT}(h:Y31 m=some f):CtX Tryz.prog 131 [.map (some bm),(Value.func (.func 132) #[] #[])] [.blk bm (mapO m)] (fun _=>True) (fun v M its=>v = .tuple #[]/\its=[.blk bm (mapO f)]):=by
 unfold Y31 at h;split at h
 case isFalse=>cases h
 rename_i hok;cases h;obtain⟨hok,hall⟩:=Bool.and_eq_true_iff.1 hok;have hok:=of_decide_eq_true hok;obtain⟨hk,hn,hb⟩:=hok;rw[List.all_eq_true] at hall
 let pd:MapE->Bool:=fun x=>Y0W x.1.1 x.1.2 == some true
 have hpd :∀x∈m.1,Y0W x.1.1 x.1.2=some (pd x):=fun x hx=>by
  have:=hall x hx;obtain⟨b,hb⟩:=Option.isSome_iff_exists.1 this;show _=some (Y0W x.1.1 x.1.2 == some true)
  rw[hb];cases b <;> rfl
 refine q0T Tryz.func131 (enters Tryz.func131 Kr G) G G G ?_;intro u M0 H hp;refine SQ (RG (MV G G (WR.rangeMap (m:=m) Tu113 H Km G (q00 G) G ?_)));intro bi w H;refine NL (TN (BL ?_));refine WC.loop1 (fun _=>[(0, .map (some bm)),(1,(Value.func (.func 132) #[] #[])),(7,ptr bi 0)])
  (fun seen w =>∃M,StX (feet [.blk bm (mapO m)]) u M0 M [.blk bi (.mapIter (some bm) m.2 seen m.2), .blk bm (.map ((mLeft pd seen m.1).map mpE).toArray m.2)] w)
  (fun seen=>mCount seen m.1) #[] ⟨rfl,rfl,rfl,trivial⟩ ⟨_,by rw[mLeft_start];exact H⟩ ?_
 rintro seen w ⟨M,H⟩;have hold :∀x∈mLeft pd seen m.1,x.2<m.2:=fun x hx=>hb x (List.mem_filter.1 hx).1
 refine SQ (RG ?_);refine WR.nextMap (L':=fun b=>[.blk bi (.mapIter (some bm) m.2 (seen.push b) m.2), .blk bm (.map ((mLeft pd seen m.1).map mpE).toArray m.2)]) H G (fun b => .head) Km hold (l07 _) (q00 G) G (fun z=>?_) (fun q w hq hs H=>?_)
 · refine q0D (q0e (vs:=[.bool false]) G G) (q00 G) G G ?_;refine NL (TN (SQ (CF G (q0o (q04 (q04 (q0g ?_)))))));rw[mLeft_end z] at H;exact q1e (its:=[.blk bm (.map ((m.1.filter (fun x => !pd x)).map mpE).toArray m.2)]) G H Kp ⟨G,G⟩
 refine q0D (q0e (vs:=[.bool true,S q.1.1,S q.1.2]) G G) (q00 G) G G ?_;refine NL (TN (SQ (CT G (SK (TN (BL (SQ (RG (ST (Ex.entryMap (q:=q) H Km Km hq (mLeft_nodup hn) G) G ?_)))))))));refine ST (q0e (vs:=[S q.1.1,S q.1.2]) G G) G (ST (q0e (vs:=[S q.1.1,S q.1.2]) G G) G (AS G G (AS G G (NL (TN (SQ (RG (MV G G (MV G G (MV G G ?_))))))))));have hql:=(List.mem_filter.1 hq).1;refine q1i (cap:=[]) H (Y55 (hpd q hql)) G G trivial (q00 G) G ?_;intro v M w H E hR;obtain rfl:=hR;refine NL (TN ?_);refine q09 G (fun hp=>?_) (fun hp=>?_)
 · refine WC.region ?_;refine MV G G (MV G G (WR.delMap Tu113 Tu9 H G G (mLeft_nodup hk) Ku (q00 G) ?_));intro w H;refine NL (IB ?_);exact WQ.again1 (seen.push q.2) ⟨G,G,G,trivial⟩ ⟨_,by rw[mLeft_goes hk hn hq hp];exact H⟩ (mCount_lt hql hs)
 refine WC.skip ?_;refine IB ?_;exact WQ.again1 (seen.push q.2) ⟨G,G,G,trivial⟩ ⟨_,by rw[mLeft_stays hn hq hp];exact H⟩ (mCount_lt hql hs)
theorem Y01 {f:Int}{u:Int}{r:Z0a}(h:Y03 f u=some r):Ct Tryz.prog 11 [I f,I u] (fun M=>True) (fun v M=>v=Value.agg #[I r.1,I r.2]):=by
 refine Ct.of Tryz.func11 (enters Tryz.func11 Kr G) G G G ?_;intro E M0 H hp;unfold Y03 at h;refine SQ (RG (q0f [_,_] H Tz33 G (q00 G) G ?_));intro z w H;refine NL (TN (SQ (RG (MV G G (MV G G (ST (q0A [I f,I u] Tu33 Tz33 (xplaces33 Tu33) G G) G (q05 [_,_] H G G G Ku Ts33 G Kf Kf (q00 G) ?_)))))));intro w H;refine NL (TN (RT ?_));obtain rfl:=oI h;exact q08 G ⟨_,G,H.loadAgg Km Ta33 Ts33 Kf⟩ H.ext G
theorem Y5b {f:Z00}{z:Nat}{r:(Z0u × Z00)}(h:Y2h f=some r):CtX Tryz.prog 30 [ptr z 0] [.blk z (.cells #[S f.1,I f.2.1,I f.2.2.1,I f.2.2.2.1,S f.2.2.2.2.1,Value.bool f.2.2.2.2.2.1,I f.2.2.2.2.2.2.1,I f.2.2.2.2.2.2.2.1,I f.2.2.2.2.2.2.2.2] 57)] (fun M=>True) (fun v M its=>v=Value.agg #[I r.1.1,I r.1.2.1,S r.1.2.2]/\its=[.blk z (.cells #[S r.2.1,I r.2.2.1,I r.2.2.2.1,I r.2.2.2.2.1,S r.2.2.2.2.2.1,Value.bool r.2.2.2.2.2.2.1,I r.2.2.2.2.2.2.2.1,I r.2.2.2.2.2.2.2.2.1,I r.2.2.2.2.2.2.2.2.2] 57)]):=by
 refine q0T Tryz.func30 (enters Tryz.func30 Kr G) G G G ?_;intro w0 M0 H hp;unfold Y2h at h;refine SQ (RG (q0f [_,_,_] H Tz55 G (q00 G) G ?_));intro K w H;refine NL (TN (SQ (RG (MV G G (FN G G Tu57 G Ts3 G G (ST (XL H Ta3) G ?_))))));refine ST (q0A [I 1,I f.2.1,S []] Tu55 Tz55 (xplaces55 Tu55) G G) G (q0f [_,_,_] H Tz55 G (q00 G) G ?_);intro N w H;refine q05 [_,_,_] H G G G Ku Ts55 G Kf Kf (q00 G) ?_;intro w H;refine NL (TN (SQ (RG (AS G G (NL (TN (SQ (SQ ?_))))))));obtain⟨n1,bc,h⟩:=bnd h;refine RG (MV G G (FN G G Tu57 G Ts3 G G (ST (XL H Ta3) G ?_)));refine ST (q0b G G bc) G (AS G G (NL (TN ?_)));obtain⟨o2,u,h⟩:=bnd h;refine q07 (fun e w =>∃(n4:Int) (n5:Int) (s6:Ls) (n7:Int) (n8:Int) (s9:Ls) (ak:Ls) (al:Int) (am:Int) (an:Int) (ao:Ls) (ap:Bool) (aq:Int) (ar:Int) (au:Int) (M:Mem),e=[(2,ptr K 0),(3,ptr N 0)]/\StX (feet [.blk z (.cells #[S f.1,I f.2.1,I f.2.2.1,I f.2.2.2.1,S f.2.2.2.2.1,Value.bool f.2.2.2.2.2.1,I f.2.2.2.2.2.2.1,I f.2.2.2.2.2.2.2.1,I f.2.2.2.2.2.2.2.2] 57)]) w0 M0 M [.blk K (.cells #[I n4,I n5,S s6] 55), .blk N (.cells #[I n7,I n8,S s9] 55), .blk z (.cells #[S ak,I al,I am,I an,S ao,Value.bool ap,I aq,I ar,I au] 57)] w/\some (.inl (n4,n5,s6,n7,n8,s9,ak,al,am,an,ao,ap,aq,ar,au))=some o2) [] ?_ ?_ (trivial)
 ·
  refine BL ?_;replace H:=H.newRow 5 encB;refine q0p (fun m e w =>∃(J:Ls) (a2:Int) (O:Int) (U:Int) (V:Ls) (Y:Bool) (Z:Int) (a0:Int) (a1:Int) (a7:Int) (a8:Int) (a9:Ls) (aa:Int) (ab:Int) (ac:Ls) (a3:Ls) (a4:Value) (av:Int) (M:Mem),e=[(0,ptr z 0),(2,ptr K 0),(3,ptr N 0),(4,a4),(5,I av)]/\StX (feet [.blk z (.cells #[S f.1,I f.2.1,I f.2.2.1,I f.2.2.2.1,S f.2.2.2.2.1,Value.bool f.2.2.2.2.2.1,I f.2.2.2.2.2.2.1,I f.2.2.2.2.2.2.2.1,I f.2.2.2.2.2.2.2.2] 57)]) w0 M0 M [.blk z (.cells #[S J,I a2,I O,I U,S V,Value.bool Y,I Z,I a0,I a1] 57), .blk K (.cells #[I a7,I a8,S a9] 55), .blk N (.cells #[I aa,I ab,S ac] 55),RowI 5 encB a4 a3] w/\Y08  m J a2 O U V Y Z a0 a1 a7 a8 a9 aa ab ac a3 av=some o2) FU [(0,_),(2,_),(3,_),(4,_),(5,_)] ⟨rfl,rfl,rfl,rfl,rfl,trivial⟩ ⟨_,_,_,_,_,_,_,_,_,_,_,_,_,_,_,_,_,_,_,rfl,(H.pick (L':=[.blk z (.cells #[S f.1,I f.2.1,I f.2.2.1,I f.2.2.2.1,S f.2.2.2.2.1,Value.bool f.2.2.2.2.2.1,I f.2.2.2.2.2.2.1,I f.2.2.2.2.2.2.2.1,I f.2.2.2.2.2.2.2.2] 57), .blk K (.cells #[I 0,I 0,S []] 55), .blk N (.cells #[I 1,I f.2.1,S []] 55),RowI 5 encB (Value.slice none 0 0) []]) Kp),u⟩ ?_;rintro aw e w ⟨J,a2,O,U,V,Y,Z,a0,a1,a7,a8,a9,aa,ab,ac,a3,a4,av,M,rfl,H,u⟩;rcases aw with _|aw
  · rw[Y08] at u;cases u
  rw[Y08] at u;refine SQ (SQ (RG (MV G G (MV G G (FN G G Tu57 G Ts9 G G (ST (XL H Ta9) G ?_))))));refine ST (q0q Tu9 G) G (ST (q0n G G) G (NL (TN ?_)));refine CB (p:=av<(J.length:Int)) G (fun ae=>?_) fun ae=>?_
  ·
   rw[if_pos ae] at u;refine SK (TN (SQ (BL (SQ ?_))));obtain⟨ad,az,u⟩:=bnd u;refine RG (MV G G (FN G G Tu57 G Ts9 G G (ST (XL H Ta9) G ?_)));refine MV G G (ST (q0G Tu9 G G az) G (AS G G (NL (TN (SQ (RG (MV G G (NL (TN (BL (SQ (RG (ST (q0P (c:=ad) (d:=34) G G) G (AS G G (NL (TN ?_))))))))))))))));refine CB (p:=ad=34) G (fun ah=>?_) fun ah=>?_
   ·
    rw[if_pos ah] at u;refine SQ ?_;obtain⟨bp,b0,u⟩:=bnd u;refine RG (MV G G (MV G G (ST (q0b G G b0) G (FN G G Tu57 G Ts3 G G (q0s [_,_,_,_,_,_,_,_,_] H G G Ku Kf Ts3 (by first|decide|(simp;done)|(simp;omega)) Kf Kf (q00 G) ?_)))));intro w H;refine NL (TN (SQ (RG (MV G G ?_))));obtain⟨M,b9,bj,H⟩:=H.freezeRowN (v:=a4) (enc:=encB) (t:=5) Kv ⟨⟨_,Km⟩,trivial⟩;refine ST (Ex.toStr Tu26 Tu5 Tu9 H (bj) G) G (ST (q01 Tu55 G Ts9 Dc G) G (q0s [_,_,_] H G G Ku Kf Ts9 (by first|decide|(simp;done)|(simp;omega)) Kf Kf (q00 G) ?_));intro w H;refine NL (TN (SQ (RG (ST (q0a H G Km Ta55 Ts55 Kf) G ?_))));refine q05 [_,_,_] H G G G Ku Ts55 G Kf Kf (q00 G) ?_;intro w H;refine NL (TN (RT ?_));obtain rfl:=oI u;try dsimp only at h
    obtain rfl:=oI h;exact q0x (its:=[.blk z (.cells #[S J,I bp,I O,I U,S V,Value.bool Y,I Z,I a0,I a1] 57)]) G ⟨_,G,H.loadAgg Km Ta55 Ts55 Kf⟩ H Kp ⟨G,G⟩
   rw[if_neg ah] at u;refine SQ (RG (ST (q0P (c:=ad) (d:=92) G G) G (AS G G (NL (TN ?_)))));refine CB (p:=ad=92) G (fun ai=>?_) fun ai=>?_
   ·
    rw[if_pos ai] at u;refine SQ ?_;obtain⟨ba,b1,u⟩:=bnd u;refine RG (MV G G (ST (q0b G G b1) G (AS G G (NL (TN (SQ (SQ ?_)))))));obtain⟨bq,E,u⟩:=bnd u;refine q07 (fun e w =>∃(ax:Bool) (M:Mem),e=[(0,ptr z 0),(2,ptr K 0),(3,ptr N 0),(4,a4),(5,I ba),(76,Value.bool ax)]/\StX (feet [.blk z (.cells #[S f.1,I f.2.1,I f.2.2.1,I f.2.2.2.1,S f.2.2.2.2.1,Value.bool f.2.2.2.2.2.1,I f.2.2.2.2.2.2.1,I f.2.2.2.2.2.2.2.1,I f.2.2.2.2.2.2.2.2] 57)]) w0 M0 M [.blk z (.cells #[S J,I a2,I O,I U,S V,Value.bool Y,I Z,I a0,I a1] 57), .blk K (.cells #[I a7,I a8,S a9] 55), .blk N (.cells #[I aa,I ab,S ac] 55),RowI 5 encB a4 a3] w/\some ax=some bq) [] ?_ ?_ (trivial)
    ·
     refine RG (MV G G (MV G G (FN G G Tu57 G Ts9 G G (ST (XL H Ta9) G ?_))));refine ST (q0q Tu9 G) G ?_;by_cases a5:ba=(J.length:Int)
     ·
      rw[if_pos a5] at E;refine DT a5 (q0j G G) G (MV G G (q06 16 G G (PT G G G (NL ?_))));exact MN ⟨_,_,G,H,E⟩
     rw[if_neg a5] at E;obtain⟨ay,b2,E⟩:=bnd E;refine DF a5 (q0j G G) G (MV G G (SG (q02 G) G G G (SG (q0k G) G G G (SG (q01 Tu57 G Ts9 Dc G) G G G (SG (XL H Ta9) G G G ?_)))));refine SG (q02 G) G G G (SG (q0G Tu9 G G b2) G G G ?_);by_cases a6:ay=34
     ·
      rw[if_pos a6] at E;refine q0l (v' := .bool false) (Ex.neqB (c:=ay) (d:=34) G G) (congrArg Value.bool (by rw[decide_eq_true a6];rfl)) (q0h G G G) G G ?_;refine SG (q02 G) G G G (q06 7 G G (SG (q0u G G) G G G (PF G G G (NL ?_))));exact MN ⟨_,_,G,H,E⟩
     rw[if_neg a6] at E;obtain⟨br,b3,E⟩:=bnd E;refine q0l (v' := .bool true) (Ex.neqB (c:=ay) (d:=34) G G) (congrArg Value.bool (by rw[decide_eq_false a6];rfl)) (q0h G G G) G G ?_;refine SG (q02 G) G G G (SG (q02 G) G G G (SG (q0k G) G G G (SG (q01 Tu57 G Ts9 Dc G) G G G (SG (XL H Ta9) G G G ?_))));refine SG (q02 G) G G G (SG (q0G Tu9 G G b3) G G G (SG (Ex.neqB (c:=br) (d:=92) G G) G G G (SG (q0t G G) G G G (PF G G G (NL ?_)))));exact MN ⟨_,_,G,H,E⟩
    rintro e w ⟨ax,M,rfl,H,bs⟩;obtain rfl:=oI bs;refine TN ?_;refine q09 G (fun aj=>?_) (fun aj=>?_)
    ·
     subst aj;rw[if_pos rfl] at u;refine SQ (RG (ST (q01 Tu55 G Ts3 Dc G) G (q0s [_,_,_] H G G Ku Kf Ts3 (by first|decide|(simp;done)|(simp;omega)) Kf Kf (q00 G) ?_)));intro w H;refine NL (TN (SQ (RG (ST (q0a H G Km Ta55 Ts55 Kf) G ?_))));refine q05 [_,_,_] H G G G Ku Ts55 G Kf Kf (q00 G) ?_;intro w H;refine NL (TN (RT ?_));obtain rfl:=oI u;try dsimp only at h
     obtain rfl:=oI h;exact q0x (its:=[.blk z (.cells #[S J,I a2,I O,I U,S V,Value.bool Y,I Z,I a0,I a1] 57)]) G ⟨_,G,H.loadAgg Km Ta55 Ts55 Kf⟩ H Kp ⟨G,G⟩
    subst aj;rw[if_neg l00] at u;refine SK (TN ?_);obtain⟨bt,b4,u⟩:=bnd u;obtain⟨bv,b5,u⟩:=bnd u;refine RG (MV G G (MV G G (FN G G Tu57 G Ts9 G G (ST (XL H Ta9) G ?_))));refine MV G G (ST (q0G Tu9 G G b4) G (q1g (enc:=encB) xty26 ([bt]:Ls) H G Kf (fun _=>G) G G (q00 G) G ?_));intro bw M w H b9 bm;refine q1d (l:=a3) xty26 G (fun _=>G) H G (fun _=>by repeat first|exact .head|apply Upd.tail) G (bm) b5 (q00 G) G ?_;intro bx w H;refine AS G G (NL (IB (IB (TN ?_))));obtain⟨bz,b6,u⟩:=bnd u;refine RG (MV G G (ST (q0b G G b6) G (AS G G (NL ?_))));exact AG aw ⟨_,_,_,_,_,_,_,_,_,_,_,_,_,_,_,_,_,_,_,G,H,u⟩ (l04 _)
   rw[if_neg ai] at u;obtain⟨c0,b7,u⟩:=bnd u;refine RG (MV G G (MV G G (q1g (enc:=encB) xty26 ([ad]:Ls) H G Kf (fun _=>G) G G (q00 G) G ?_)));intro c1 M w H b9 bn;refine q1d (l:=a3) xty26 G (fun _=>G) H G (fun _=>by repeat first|exact .head|apply Upd.tail) G (bn) b7 (q00 G) G ?_;intro c2 w H;refine AS G G (NL (IB (IB (TN ?_))));obtain⟨c3,b8,u⟩:=bnd u;refine RG (MV G G (ST (q0b G G b8) G (AS G G (NL ?_))));exact AG aw ⟨_,_,_,_,_,_,_,_,_,_,_,_,_,_,_,_,_,_,_,G,H,u⟩ (l04 _)
  rw[if_neg ae] at u;refine q0o (q04 (q04 (q0g ?_)));exact MN ⟨_,_,_,_,_,_,_,_,_,_,_,_,_,_,_,_,G,(H.pick (L':=[.blk K (.cells #[I a7,I a8,S a9] 55), .blk N (.cells #[I aa,I ab,S ac] 55), .blk z (.cells #[S J,I a2,I O,I U,S V,Value.bool Y,I Z,I a0,I a1] 57)]) Kp),u⟩
 rintro e w ⟨n4,n5,s6,n7,n8,s9,ak,al,am,an,ao,ap,aq,ar,au,M,rfl,H,bu⟩;obtain rfl:=oI bu;try dsimp only at h
 refine TN (SQ (RG (ST (q01 Tu55 G Ts3 Dc G) G (q0s [_,_,_] H G G Ku Kf Ts3 (by first|decide|(simp;done)|(simp;omega)) Kf Kf (q00 G) ?_))));intro w H;refine NL (TN (SQ (RG (ST (q0a H G Km Ta55 Ts55 Kf) G ?_))));refine q05 [_,_,_] H G G G Ku Ts55 G Kf Kf (q00 G) ?_;intro w H;refine NL (TN (RT ?_));obtain rfl:=oI h;exact q0x (its:=[.blk z (.cells #[S ak,I al,I am,I an,S ao,Value.bool ap,I aq,I ar,I au] 57)]) G ⟨_,G,H.loadAgg Km Ta55 Ts55 Kf⟩ H Kp ⟨G,G⟩
theorem Y2A {u:UInt8}{r:Bool}(h:Y10 u=some r):Ct Tryz.prog 28 [encB u] (fun M=>True) (fun v M=>v=Value.bool r):=by
 refine Ct.of Tryz.func28 (enters Tryz.func28 Kr G) G G G ?_;intro J M0 H hp;unfold Y10 at h;refine SQ (RG (AS G G (NL (TN (SQ ?_)))));obtain⟨K,z,h⟩:=bnd h;refine q07 (fun e w =>∃(E:Bool) (M:Mem),e=[(2,Value.bool E)]/\St J M0 M [] w/\some E=some K) [] ?_ ?_ (trivial)
 ·
  by_cases f:97<=u.toNat
  ·
   rw[if_pos f] at z;refine RG (MV G G (DT f (q0K (i:=u.toNat) (j:=97) G G) G (MV G G (SG (q02 G) G G G (SG (q0X (i:=u.toNat) (j:=122) G G) G G G (PT G G G (AS G G (NL ?_))))))));exact MN ⟨_,_,G,H,z⟩
  rw[if_neg f] at z;refine RG (MV G G (DF f (q0K (i:=u.toNat) (j:=97) G G) G (MV G G (GF G G G (GF G G G (PF G G G (AS G G (NL ?_))))))));exact MN ⟨_,_,G,H,z⟩
 rintro e w ⟨E,M,rfl,H,N⟩;obtain rfl:=oI N;refine TN (RT ?_);obtain rfl:=oI h;exact q08 G G H.ext G
theorem Y3h {u:UInt8}{r:Bool}(h:Y1g u=some r):Ct Tryz.prog 29 [encB u] (fun M=>True) (fun v M=>v=Value.bool r):=by
 refine Ct.of Tryz.func29 (enters Tryz.func29 Kr G) G G G ?_;intro J M0 H hp;unfold Y1g at h;refine SQ (RG (AS G G (NL (TN (SQ ?_)))));obtain⟨K,z,h⟩:=bnd h;refine q07 (fun e w =>∃(E:Bool) (M:Mem),e=[(2,Value.bool E)]/\St J M0 M [] w/\some E=some K) [] ?_ ?_ (trivial)
 ·
  by_cases f:48<=u.toNat
  ·
   rw[if_pos f] at z;refine RG (MV G G (DT f (q0K (i:=u.toNat) (j:=48) G G) G (MV G G (SG (q02 G) G G G (SG (q0X (i:=u.toNat) (j:=57) G G) G G G (PT G G G (AS G G (NL ?_))))))));exact MN ⟨_,_,G,H,z⟩
  rw[if_neg f] at z;refine RG (MV G G (DF f (q0K (i:=u.toNat) (j:=48) G G) G (MV G G (GF G G G (GF G G G (PF G G G (AS G G (NL ?_))))))));exact MN ⟨_,_,G,H,z⟩
 rintro e w ⟨E,M,rfl,H,N⟩;obtain rfl:=oI N;refine TN (RT ?_);obtain rfl:=oI h;exact q08 G G H.ext G
theorem Y2R {f:Z00}{u:Nat}{r:Z00}(h:Y0X f=some r):CtX Tryz.prog 12 [ptr u 0] [.blk u (.cells #[S f.1,I f.2.1,I f.2.2.1,I f.2.2.2.1,S f.2.2.2.2.1,Value.bool f.2.2.2.2.2.1,I f.2.2.2.2.2.2.1,I f.2.2.2.2.2.2.2.1,I f.2.2.2.2.2.2.2.2] 57)] (fun M=>True) (fun v M its=>v=Value.tuple #[]/\its=[.blk u (.cells #[S r.1,I r.2.1,I r.2.2.1,I r.2.2.2.1,S r.2.2.2.2.1,Value.bool r.2.2.2.2.2.1,I r.2.2.2.2.2.2.1,I r.2.2.2.2.2.2.2.1,I r.2.2.2.2.2.2.2.2] 57)]):=by
 refine q0T Tryz.func12 (enters Tryz.func12 Kr G) G G G ?_;intro w0 M0 H hp;unfold Y0X at h;refine SQ ?_;obtain⟨o1,V,h⟩:=bnd h;refine q07 (fun e w =>∃(U:Ls) (N:Int) (n5:Int) (n6:Int) (s7:Ls) (b8:Bool) (n9:Int) (J:Int) (K:Int) (M:Mem),e=[(0,ptr u 0)]/\StX (feet [.blk u (.cells #[S f.1,I f.2.1,I f.2.2.1,I f.2.2.2.1,S f.2.2.2.2.1,Value.bool f.2.2.2.2.2.1,I f.2.2.2.2.2.2.1,I f.2.2.2.2.2.2.2.1,I f.2.2.2.2.2.2.2.2] 57)]) w0 M0 M [.blk u (.cells #[S U,I N,I n5,I n6,S s7,Value.bool b8,I n9,I J,I K] 57)] w/\some (U,N,n5,n6,s7,b8,n9,J,K)=some o1) [] ?_ ?_ (trivial)
 ·
  refine BL (q0p (fun m e w =>∃(ac:Ls) (ad:Int) (ao:Int) (ap:Int) (aq:Ls) (ar:Bool) (au:Int) (av:Int) (aw:Int) (M:Mem),e=[(0,ptr u 0)]/\StX (feet [.blk u (.cells #[S f.1,I f.2.1,I f.2.2.1,I f.2.2.2.1,S f.2.2.2.2.1,Value.bool f.2.2.2.2.2.1,I f.2.2.2.2.2.2.1,I f.2.2.2.2.2.2.2.1,I f.2.2.2.2.2.2.2.2] 57)]) w0 M0 M [.blk u (.cells #[S ac,I ad,I ao,I ap,S aq,Value.bool ar,I au,I av,I aw] 57)] w/\Y0u  m ac ad ao ap aq ar au av aw=some o1) FU [(0,_)] ⟨rfl,trivial⟩ ⟨_,_,_,_,_,_,_,_,_,_,rfl,H,V⟩ ?_);rintro az e w ⟨ac,ad,ao,ap,aq,ar,au,av,aw,M,rfl,H,V⟩;rcases az with _|az
  · rw[Y0u] at V;cases V
  rw[Y0u] at V;refine SQ (SQ ?_);obtain⟨bs,Y,V⟩:=bnd V;refine q07 (fun e w =>∃(b0:Bool) (M:Mem),e=[(0,ptr u 0),(29,Value.bool b0)]/\StX (feet [.blk u (.cells #[S f.1,I f.2.1,I f.2.2.1,I f.2.2.2.1,S f.2.2.2.2.1,Value.bool f.2.2.2.2.2.1,I f.2.2.2.2.2.2.1,I f.2.2.2.2.2.2.2.1,I f.2.2.2.2.2.2.2.2] 57)]) w0 M0 M [.blk u (.cells #[S ac,I ad,I ao,I ap,S aq,Value.bool ar,I au,I av,I aw] 57)] w/\some b0=some bs) [] ?_ ?_ (trivial)
  ·
   refine q0v (m:=23) G G H ?_;intro w H;refine TK 0 G (fun _=>q02 G) G (TK 1 G (fun _=>q0k G) G (TK 2 G (fun _=>q01 Tu57 G Ts3 Dc G) G (TK 4 G (fun _=>q02 G) G (TK 5 G (fun _=>q0k G) G (TK 6 G (fun _=>q01 Tu57 G Ts9 Dc G) G ?_)))));refine q0B (i:=7) [3] G Kr Kr Kr (XL H Ta9) (q00 G) G G (fun _ _=>G) ?_;refine TK 8 G (fun _=>q0q Tu9 G) G (ON 3 Kr G (ST (XL H Ta3) G ?_));refine NA ?_;by_cases a9:ad<(ac.length:Int)
   ·
    rw[if_pos a9] at Y;obtain⟨cc,b6,Y⟩:=bnd Y;obtain⟨cd,bi,Y⟩:=bnd Y;refine q0i (fuel:=12) [9,10] G Kr (DT a9 (q0n G G) G (MV G G (NA (q1l (i:=11) G Kr Kr Kr (fun _=>q02 G) (q0h G G G) G G (fun _ _=>G) (q1l (i:=12) G Kr Kr Kr (fun _=>q0k G) (q0h G G G) G G (fun _ _=>G) (q1l (i:=13) G Kr Kr Kr (fun _=>q01 Tu57 G Ts9 Dc G) (q0h G G G) G G (fun _ _=>G) (q1l (i:=15) G Kr Kr Kr (fun _=>q02 G) (q0h G G G) G G (fun _ _=>G) (q1l (i:=16) G Kr Kr Kr (fun _=>q0k G) (q0h G G G) G G (fun _ _=>G) ?_))))))));refine q1l (i:=17) G Kr Kr Kr (fun _=>q01 Tu57 G Ts3 Dc G) (q0h G G G) G G (fun _ _=>G) (q0B (i:=14) [18] G Kr Kr Kr (XL H Ta9) (q0h G G G) G G (fun _ _=>G) ?_);refine q0i (fuel:=0) [18,19,20,21,22] G Kr (SG (XL H Ta3) G G G ?_);refine SG (q0G Tu9 G G b6) G G G (q03 H (Y2B bi) G trivial (q0h G G G) G ?_);intro ce M w H a6 hR;obtain rfl:=hR;refine SG (q1a G G) G G G (PT G G G (NA (q0d Kr ?_)));exact MN ⟨_,_,G,H,Y⟩
   rw[if_neg a9] at Y;refine q0i (fuel:=12) [9,10] G Kr (DF a9 (q0n G G) G (MV G G (NA (WA.takes (fuel:=8) [11,12,13,14] G Kr Kr G (q0i (fuel:=0) [15,16,17,18,19,20,21,22] G Kr (q06 7 G G (PF G G G (NA (q0d Kr ?_)))))))));exact MN ⟨_,_,G,H,Y⟩
  rintro e w ⟨b0,M,rfl,H,bt⟩;obtain rfl:=oI bt;refine TN ?_;refine q09 G (fun ai=>?_) (fun ai=>?_)
  ·
   subst ai;rw[if_pos rfl] at V;refine SK (TN (BL ?_));obtain⟨cf,b7,V⟩:=bnd V;refine RG (MV G G (FN G G Tu57 G Ts3 G G (ST (XL H Ta3) G ?_)));refine ST (q0b G G b7) G (FN G G Tu57 G Ts3 G G (q0s [_,_,_,_,_,_,_,_,_] H G G Ku Kf Ts3 (by first|decide|(simp;done)|(simp;omega)) Kf Kf (q00 G) ?_));intro w H;refine NL (IB ?_);exact AG az ⟨_,_,_,_,_,_,_,_,_,_,G,H,V⟩ (l04 _)
  subst ai;rw[if_neg l00] at V;refine q0o (q04 (q04 (q0g ?_)));exact MN ⟨_,_,_,_,_,_,_,_,_,_,G,H,V⟩
 rintro e w ⟨U,N,n5,n6,s7,b8,n9,J,K,M,rfl,H,bu⟩;obtain rfl:=oI bu;try dsimp only at h
 refine TN (SQ (SQ (q0v (m:=10) G G H ?_)));intro w H;refine TK 0 G (fun _=>q02 G) G (TK 1 G (fun _=>q0k G) G (TK 2 G (fun _=>q01 Tu57 G Ts3 Dc G) G (TK 4 G (fun _=>q02 G) G (TK 5 G (fun _=>q0k G) G (TK 6 G (fun _=>q01 Tu57 G Ts9 Dc G) G ?_)))));refine q0B (i:=7) [3] G Kr Kr Kr (XL H Ta9) (q00 G) G G (fun _ _=>G) ?_;refine TK 8 G (fun _=>q0q Tu9 G) G (q0i (fuel:=0) [3,9] G Kr (ST (XL H Ta3) G ?_));refine ST (q0j G G) G (NA (q0d Kr (TN ?_)));refine CB (p:=N=(U.length:Int)) G (fun aj=>?_) fun aj=>?_
 ·
  rw[if_pos aj] at h;refine SQ (RG (MV G G (MV G G (FN G G Tu57 G Ts3 G G (ST (XL H Ta3) G ?_)))));refine ST (q0A [I 0,I N,S []] Tu55 Tz55 (xplaces55 Tu55) G G) G (FN G G Tu57 G Ts55 G G (WR.storeP [_,_,_,_,_,_,_,_,_] H G G G Ku Ts55 G G G G (q00 G) ?_));intro w H;refine NL (TN (RT ?_));obtain rfl:=oI h;exact WQ.retX0 (its:=[.blk u (.cells #[S U,I N,I 0,I N,S [],Value.bool b8,I n9,I J,I K] 57)]) G H Kp ⟨G,G⟩
 rw[if_neg aj] at h;refine SK (TN (SQ (RG (AS G G (NL (TN (SQ (RG (AS G G (NL (TN (SQ ?_))))))))))));obtain⟨b1,b9,h⟩:=bnd h;refine q0v (m:=10) G G H ?_;intro w H;refine TK 0 G (fun _=>q02 G) G (TK 1 G (fun _=>q0k G) G (TK 2 G (fun _=>q01 Tu57 G Ts9 Dc G) G (TK 4 G (fun _=>q02 G) G (TK 5 G (fun _=>q0k G) G (TK 6 G (fun _=>q01 Tu57 G Ts3 Dc G) G ?_)))));refine q0B (i:=3) [7] G Kr Kr Kr (XL H Ta9) (q00 G) G G (fun _ _=>G) ?_;refine q0i (fuel:=0) [7,8,9] G Kr (ST (XL H Ta3) G ?_);refine ST (q0G Tu9 G G b9) G (AS G G (NA (q0d Kr (TN (SQ (SQ (RG (MV G G (ST (q0P (c:=b1) (d:=34) G G) G (NL (TN ?_)))))))))));refine CB (p:=b1=34) G (fun ak=>?_) fun ak=>?_
 ·
  rw[if_pos ak] at h;refine SQ ?_;obtain⟨⟨⟨bv,bw,bx⟩,a7⟩,bj,h⟩:=bnd h;try dsimp only at h
  refine RG (MV G G (MV G G (XC (A:=[.blk u (.cells #[S U,I N,I n5,I n6,S s7,Value.bool b8,I n9,I J,I K] 57)]) H (Y5b bj) G trivial (q00 G) G Kt ?_)));intro cg M w its H a6 hR;try dsimp only at hR
  obtain⟨rfl,rfl⟩:=hR;simp only[l01,l02] at H;refine FN G G Tu57 G Ts55 G G (WR.storeP [_,_,_,_,_,_,_,_,_] H G G G Ku Ts55 G G G G (q00 G) ?_);intro w H;refine NL (TN (RT ?_));obtain rfl:=oI h;exact WQ.retX0 (its:=[.blk u (.cells #[S a7.1,I a7.2.1,I bv,I bw,S bx,Value.bool a7.2.2.2.2.2.1,I a7.2.2.2.2.2.2.1,I a7.2.2.2.2.2.2.2.1,I a7.2.2.2.2.2.2.2.2] 57)]) G H Kp ⟨G,G⟩
 rw[if_neg ak] at h;refine SK (TN (SQ ?_));obtain⟨bf,ba,h⟩:=bnd h;refine RG (MV G G (FN G G Tu57 G Ts3 G G (ST (XL H Ta3) G ?_)));refine ST (q0b G G ba) G (AS G G (AS G G (NL (TN (SQ (SQ ?_))))));obtain⟨bz,Z,h⟩:=bnd h;refine q07 (fun e w =>∃(b2:Bool) (M:Mem),e=[(0,ptr u 0),(2,(Value.func (.func 28) #[] #[])),(3,(Value.func (.func 29) #[] #[])),(4,encB b1),(5,I bf),(6,I 4),(83,Value.bool b2)]/\StX (feet [.blk u (.cells #[S f.1,I f.2.1,I f.2.2.1,I f.2.2.2.1,S f.2.2.2.2.1,Value.bool f.2.2.2.2.2.1,I f.2.2.2.2.2.2.1,I f.2.2.2.2.2.2.2.1,I f.2.2.2.2.2.2.2.2] 57)]) w0 M0 M [.blk u (.cells #[S U,I N,I n5,I n6,S s7,Value.bool b8,I n9,I J,I K] 57)] w/\some b2=some bz) [] ?_ ?_ (trivial)
 ·
  obtain⟨c0,bm,Z⟩:=bnd Z;refine RG (MV G G (MV G G (q1i (cap:=[]) H (Y2A bm) G G trivial (q00 G) G ?_)));intro ch M w H a6 hR;obtain rfl:=hR;refine MV G G ?_;rcases c0 with _|_
  ·
   rw[if_neg l00] at Z;obtain⟨ci,bn,Z⟩:=bnd Z;refine SG (q02 G) G G G (SG (q02 G) G G G (q1i (cap:=[]) H (Y3h bn) G G trivial (q0h G G G) G ?_));intro cj M w H a6 hR;obtain rfl:=hR;refine PF G G G (NL ?_);exact MN ⟨_,_,G,H,Z⟩
  rw[if_pos rfl] at Z;refine q06 3 G G (PT G G G (NL ?_));exact MN ⟨_,_,G,H,Z⟩
 rintro e w ⟨b2,M,rfl,H,c1⟩;obtain rfl:=oI c1;refine TN ?_;obtain⟨c2,O,h⟩:=bnd h;refine q07 (fun e w =>∃(ax:Int) (ae:Int) (M:Mem),e=[(0,ptr u 0),(5,I ax),(6,I ae)]/\StX (feet [.blk u (.cells #[S f.1,I f.2.1,I f.2.2.1,I f.2.2.2.1,S f.2.2.2.2.1,Value.bool f.2.2.2.2.2.1,I f.2.2.2.2.2.2.1,I f.2.2.2.2.2.2.2.1,I f.2.2.2.2.2.2.2.2] 57)]) w0 M0 M [.blk u (.cells #[S U,I N,I n5,I n6,S s7,Value.bool b8,I n9,I J,I K] 57)] w/\some (ax,ae)=some c2) [] ?_ ?_ (trivial)
 ·
  refine q09 G (fun al=>?_) (fun al=>?_)
  ·
   subst al;rw[if_pos rfl] at O;refine SQ (RG (AS G G (NL (TN (SQ (SQ ?_))))));obtain⟨ck,bo,O⟩:=bnd O;refine RG (MV G G (MV G G (q1i (cap:=[]) H (Y2A bo) G G trivial (q00 G) G ?_)));intro cl M w H a6 hR;obtain rfl:=hR;refine NL (TN ?_);obtain⟨c3,ay,O⟩:=bnd O;refine q07 (fun e w =>∃(a0:Int) (M:Mem),e=[(0,ptr u 0),(2,(Value.func (.func 28) #[] #[])),(3,(Value.func (.func 29) #[] #[])),(5,I bf),(6,I a0)]/\StX (feet [.blk u (.cells #[S f.1,I f.2.1,I f.2.2.1,I f.2.2.2.1,S f.2.2.2.2.1,Value.bool f.2.2.2.2.2.1,I f.2.2.2.2.2.2.1,I f.2.2.2.2.2.2.2.1,I f.2.2.2.2.2.2.2.2] 57)]) w0 M0 M [.blk u (.cells #[S U,I N,I n5,I n6,S s7,Value.bool b8,I n9,I J,I K] 57)] w/\some a0=some c3) [] ?_ ?_ (trivial)
   ·
    refine q09 G (fun am=>?_) (fun am=>?_)
    ·
     subst am;rw[if_pos rfl] at ay;refine RG (AS G G (NL ?_));exact MN ⟨_,_,G,H,ay⟩
    subst am;rw[if_neg l00] at ay;refine SK ?_;exact MN ⟨_,_,G,H,ay⟩
   rintro e w ⟨a0,M,rfl,H,c4⟩;obtain rfl:=oI c4;refine TN ?_;obtain⟨bg,E,O⟩:=bnd O;refine q07 (fun e w =>∃(b3:Int) (M:Mem),e=[(0,ptr u 0),(5,I b3),(6,I a0)]/\StX (feet [.blk u (.cells #[S f.1,I f.2.1,I f.2.2.1,I f.2.2.2.1,S f.2.2.2.2.1,Value.bool f.2.2.2.2.2.1,I f.2.2.2.2.2.2.1,I f.2.2.2.2.2.2.2.1,I f.2.2.2.2.2.2.2.2] 57)]) w0 M0 M [.blk u (.cells #[S U,I N,I n5,I n6,S s7,Value.bool b8,I n9,I J,I K] 57)] w/\some b3=some bg) [] ?_ ?_ (trivial)
   ·
    refine BL (q0p (fun m e w =>∃(ah:Int) (M:Mem),e=[(0,ptr u 0),(2,(Value.func (.func 28) #[] #[])),(3,(Value.func (.func 29) #[] #[])),(5,I ah),(6,I a0)]/\StX (feet [.blk u (.cells #[S f.1,I f.2.1,I f.2.2.1,I f.2.2.2.1,S f.2.2.2.2.1,Value.bool f.2.2.2.2.2.1,I f.2.2.2.2.2.2.1,I f.2.2.2.2.2.2.2.1,I f.2.2.2.2.2.2.2.2] 57)]) w0 M0 M [.blk u (.cells #[S U,I N,I n5,I n6,S s7,Value.bool b8,I n9,I J,I K] 57)] w/\Y0o U a0 m ah=some bg) FU [(0,_),(2,_),(3,_),(5,_),(6,_)] ⟨rfl,rfl,rfl,rfl,rfl,trivial⟩ ⟨_,_,rfl,H,E⟩ ?_);rintro b4 e w ⟨ah,M,rfl,H,E⟩;rcases b4 with _|b4
    · rw[Y0o] at E;cases E
    rw[Y0o] at E;refine SQ (SQ ?_);obtain⟨c5,z,E⟩:=bnd E;refine q07 (fun e w =>∃(b5:Bool) (M:Mem),e=[(0,ptr u 0),(2,(Value.func (.func 28) #[] #[])),(3,(Value.func (.func 29) #[] #[])),(5,I ah),(6,I a0),(117,Value.bool b5)]/\StX (feet [.blk u (.cells #[S f.1,I f.2.1,I f.2.2.1,I f.2.2.2.1,S f.2.2.2.2.1,Value.bool f.2.2.2.2.2.1,I f.2.2.2.2.2.2.1,I f.2.2.2.2.2.2.2.1,I f.2.2.2.2.2.2.2.2] 57)]) w0 M0 M [.blk u (.cells #[S U,I N,I n5,I n6,S s7,Value.bool b8,I n9,I J,I K] 57)] w/\some b5=some c5) [] ?_ ?_ (trivial)
    ·
     refine RG (MV G G (MV G G (FN G G Tu57 G Ts9 G G (ST (XL H Ta9) G ?_))));refine ST (q0q Tu9 G) G ?_;by_cases aa:ah<(U.length:Int)
     ·
      rw[if_pos aa] at z;obtain⟨cm,bb,z⟩:=bnd z;obtain⟨c6,bp,z⟩:=bnd z;refine DT aa (q0n G G) G (MV G G (SG (q02 G) G G G (SG (q02 G) G G G (SG (q0k G) G G G (SG (q01 Tu57 G Ts9 Dc G) G G G (SG (XL H Ta9) G G G ?_))))));refine SG (q02 G) G G G (SG (q0G Tu9 G G bb) G G G (q1i (cap:=[]) H (Y3h bp) G G trivial (q0h G G G) G ?_));intro ca M w H a6 hR;obtain rfl:=hR;refine SG (q02 G) G G G ?_;rcases c6 with _|_
      ·
       rw[if_neg l00] at z;by_cases ab:a0=(2:Int)
       ·
        rw[if_pos ab] at z;obtain⟨cn,bc,z⟩:=bnd z;obtain⟨co,bq,z⟩:=bnd z;refine SG (q02 G) G G G (DU ab (q0j G G) G G G (SG (q02 G) G G G (SG (q02 G) G G G (SG (q02 G) G G G (SG (q0k G) G G G (SG (q01 Tu57 G Ts9 Dc G) G G G (SG (XL H Ta9) G G G ?_)))))));refine SG (q02 G) G G G (SG (q0G Tu9 G G bc) G G G (q1i (cap:=[]) H (Y2A bq) G G trivial (q0h G G G) G ?_));intro cb M w H a6 hR;obtain rfl:=hR;refine SG (q0t G G) G G G (SG (q0u G G) G G G (PT G G G (NL ?_)));exact MN ⟨_,_,G,H,z⟩
       rw[if_neg ab] at z;refine SG (q02 G) G G G (DG ab (q0j G G) G G G (SG (q02 G) G G G (q06 8 G G (SG (q0u G G) G G G (SG (q0u G G) G G G (PT G G G (NL ?_)))))));exact MN ⟨_,_,G,H,z⟩
      rw[if_pos rfl] at z;refine q06 12 G G (SG (q0t G G) G G G (PT G G G (NL ?_)));exact MN ⟨_,_,G,H,z⟩
     rw[if_neg aa] at z;refine DF aa (q0n G G) G (MV G G (q06 22 G G (PF G G G (NL ?_))));exact MN ⟨_,_,G,H,z⟩
    rintro e w ⟨b5,M,rfl,H,c7⟩;obtain rfl:=oI c7;refine TN ?_;refine q09 G (fun an=>?_) (fun an=>?_)
    ·
     subst an;rw[if_pos rfl] at E;refine SK (TN (BL ?_));obtain⟨cp,bd,E⟩:=bnd E;refine RG (MV G G (ST (q0b G G bd) G (AS G G (NL (IB ?_)))));exact AG b4 ⟨_,_,G,H,E⟩ (l04 _)
    subst an;rw[if_neg l00] at E;refine q0o (q04 (q04 (q0g ?_)));exact MN ⟨_,_,G,H,E⟩
   rintro e w ⟨b3,M,rfl,H,c8⟩;obtain rfl:=oI c8;exact MN ⟨_,_,_,G,H,O⟩
  subst al;rw[if_neg l00] at O;refine SK ?_;exact MN ⟨_,_,_,G,H,O⟩
 rintro e w ⟨ax,ae,M,rfl,H,c9⟩;obtain rfl:=oI c9;try dsimp only at h
 refine TN (SQ ?_);obtain⟨bh,be,h⟩:=bnd h;refine q0v (m:=20) G G H ?_;intro w H;refine TK 0 G (fun _=>q02 G) G (TK 1 G (fun _=>q02 G) G (TK 2 G (fun _=>q02 G) G (TK 3 G (fun _=>q0k G) G (TK 4 G (fun _=>q01 Tu57 G Ts3 Dc G) G (TK 6 G (fun _=>q02 G) G (TK 7 G (fun _=>q0k G) G ?_))))));refine TK 8 G (fun _=>q01 Tu57 G Ts9 Dc G) G (TK 10 G (fun _=>q02 G) G (TK 11 G (fun _=>q0k G) G (TK 12 G (fun _=>q01 Tu57 G Ts3 Dc G) G (TK 14 G (fun _=>q02 G) G (q0B (i:=9) [5,13] G Kr Kr Kr (XL H Ta9) (q00 G) G G (fun _ _=>G) ?_)))));refine q0B (i:=13) [5] G Kr Kr Kr (XL H Ta3) (q00 G) G G (fun _ _=>G) ?_;refine TK 15 G (fun _=>Ex.sliceC Tu9 G G G be) G (q0i (fuel:=0) [5,16,17,18,19] G Kr (ST (XL H Ta3) G ?_));refine ST (q0A [I ae,I N,S bh] Tu55 Tz55 (xplaces55 Tu55) G G) G (FN G G Tu57 G Ts55 G G (WR.storeP [_,_,_,_,_,_,_,_,_] H G G G Ku Ts55 G G G G (q00 G) ?_));intro w H;refine NA (q0d Kr (TN (RG (MV G G (MV G G (FN G G Tu57 G Ts3 G G (q0s [_,_,_,_,_,_,_,_,_] H G G Ku Kf Ts3 (by first|decide|(simp;done)|(simp;omega)) Kf Kf (q00 G) ?_)))))));intro w H;refine NL ?_;obtain rfl:=oI h;exact q1e (its:=[.blk u (.cells #[S U,I ax,I ae,I N,S bh,Value.bool b8,I n9,I J,I K] 57)]) G H Kp ⟨G,G⟩
theorem Y0c {f:Z00}{O:Int}{V:Ls}{u:Nat}{r:(Bool × Z00)}(h:Y09 f O V=some r):CtX Tryz.prog 48 [ptr u 0,I O,S V] [.blk u (.cells #[S f.1,I f.2.1,I f.2.2.1,I f.2.2.2.1,S f.2.2.2.2.1,Value.bool f.2.2.2.2.2.1,I f.2.2.2.2.2.2.1,I f.2.2.2.2.2.2.2.1,I f.2.2.2.2.2.2.2.2] 57)] (fun M=>True) (fun v M its=>v=Value.bool r.1/\its=[.blk u (.cells #[S r.2.1,I r.2.2.1,I r.2.2.2.1,I r.2.2.2.2.1,S r.2.2.2.2.2.1,Value.bool r.2.2.2.2.2.2.1,I r.2.2.2.2.2.2.2.1,I r.2.2.2.2.2.2.2.2.1,I r.2.2.2.2.2.2.2.2.2] 57)]):=by
 refine q0T Tryz.func48 (enters Tryz.func48 Kr G) G G G ?_;intro Z M0 H hp;unfold Y09 at h;refine SQ (RG (AS G G (NL (TN (SQ (SQ ?_))))));obtain⟨o1,E,h⟩:=bnd h;refine q07 (fun e w =>∃(U:Bool) (M:Mem),e=[(0,ptr u 0),(28,Value.bool U)]/\StX (feet [.blk u (.cells #[S f.1,I f.2.1,I f.2.2.1,I f.2.2.2.1,S f.2.2.2.2.1,Value.bool f.2.2.2.2.2.1,I f.2.2.2.2.2.2.1,I f.2.2.2.2.2.2.2.1,I f.2.2.2.2.2.2.2.2] 57)]) Z M0 M [.blk u (.cells #[S f.1,I f.2.1,I f.2.2.1,I f.2.2.2.1,S f.2.2.2.2.1,Value.bool f.2.2.2.2.2.1,I f.2.2.2.2.2.2.1,I f.2.2.2.2.2.2.2.1,I f.2.2.2.2.2.2.2.2] 57)] w/\some U=some o1) [] ?_ ?_ (trivial)
 ·
  refine RG (MV G G (FN G G Tu57 G Ts4 G G ?_));by_cases J:f.2.2.2.2.2.1=true
  ·
   rw[if_pos J] at E;refine q0l (v' := .bool true) (XL H Ta4) (congrArg Value.bool J) (q00 G) G G ?_;refine MV G G (q06 7 G G (PT G G G (MV G G (q06 7 G G (PT G G G (NL ?_))))));exact MN ⟨_,_,G,H,E⟩
  rw[if_neg J] at E;refine q0l (v' := .bool false) (XL H Ta4) (congrArg Value.bool (l1d J)) (q00 G) G G ?_;refine MV G G (SG (q02 G) G G G (SG (q0k G) G G G (SG (q01 Tu57 G Ts55 Dc G) G G G (SG (q01 Tu55 G Ts3 Dc G) G G G (SG (XL H Ta3) G G G ?_)))));refine SG (q02 G) G G G ?_;by_cases K:f.2.2.1=O
  ·
   rw[if_pos K] at E;refine q0l (v' := .bool false) (q0E G G) (congrArg Value.bool (by rw[decide_eq_true K];rfl)) (q0h G G G) G G ?_;refine PF G G G (MV G G (SG (q02 G) G G G (SG (q0k G) G G G (SG (q01 Tu57 G Ts55 Dc G) G G G (SG (q01 Tu55 G Ts9 Dc G) G G G (SG (XL H Ta9) G G G ?_))))));refine SG (q02 G) G G G (SG (q0z G G) G G G (PF G G G (NL ?_)));exact MN ⟨_,_,G,H,E⟩
  rw[if_neg K] at E;refine q0l (v' := .bool true) (q0E G G) (congrArg Value.bool (by rw[decide_eq_false K];rfl)) (q0h G G G) G G ?_;refine PF G G G (MV G G (q06 7 G G (PT G G G (NL ?_))));exact MN ⟨_,_,G,H,E⟩
 rintro e w ⟨U,M,rfl,H,q6⟩;obtain rfl:=oI q6;refine TN ?_;refine q09 G (fun N=>?_) (fun N=>?_)
 ·
  subst N;rw[if_pos rfl] at h;refine SQ (RG (AS G G (NL (TN (RT ?_)))));obtain rfl:=oI h;exact q0x (its:=[.blk u (.cells #[S f.1,I f.2.1,I f.2.2.1,I f.2.2.2.1,S f.2.2.2.2.1,Value.bool f.2.2.2.2.2.1,I f.2.2.2.2.2.2.1,I f.2.2.2.2.2.2.2.1,I f.2.2.2.2.2.2.2.2] 57)]) G G H Kp ⟨G,G⟩
 subst N;rw[if_neg l00] at h;refine SK (TN (SQ ?_));obtain⟨z,Y,h⟩:=bnd h;refine RG (MV G G (XC (A:=[.blk u (.cells #[S f.1,I f.2.1,I f.2.2.1,I f.2.2.2.1,S f.2.2.2.2.1,Value.bool f.2.2.2.2.2.1,I f.2.2.2.2.2.2.1,I f.2.2.2.2.2.2.2.1,I f.2.2.2.2.2.2.2.2] 57)]) H (Y2R Y) G trivial (q00 G) G Kt ?_));intro a2 M w its H a3 hR;obtain⟨rfl,rfl⟩:=hR;simp only[l01,l02] at H;refine NL (TN (SQ (RG (AS G G (NL (TN (RT ?_)))))));obtain rfl:=oI h;exact q0x (its:=[.blk u (.cells #[S z.1,I z.2.1,I z.2.2.1,I z.2.2.2.1,S z.2.2.2.2.1,Value.bool z.2.2.2.2.2.1,I z.2.2.2.2.2.2.1,I z.2.2.2.2.2.2.2.1,I z.2.2.2.2.2.2.2.2] 57)]) G G H Kp ⟨G,G⟩
theorem Y1e {f:Z00}{J:Ls}{E:Nat}{r:Z00}(h:Y0D f J=some r):CtX Tryz.prog 52 [ptr E 0,S J] [.blk E (.cells #[S f.1,I f.2.1,I f.2.2.1,I f.2.2.2.1,S f.2.2.2.2.1,Value.bool f.2.2.2.2.2.1,I f.2.2.2.2.2.2.1,I f.2.2.2.2.2.2.2.1,I f.2.2.2.2.2.2.2.2] 57)] (fun M=>True) (fun v M its=>v=Value.tuple #[]/\its=[.blk E (.cells #[S r.1,I r.2.1,I r.2.2.1,I r.2.2.2.1,S r.2.2.2.2.1,Value.bool r.2.2.2.2.2.1,I r.2.2.2.2.2.2.1,I r.2.2.2.2.2.2.2.1,I r.2.2.2.2.2.2.2.2] 57)]):=by
 refine q0T Tryz.func52 (enters Tryz.func52 Kr G) G G G ?_;intro U M0 H hp;unfold Y0D at h;refine SQ ?_;obtain⟨⟨K,u⟩,N,h⟩:=bnd h;try dsimp only at h
 refine RG (MV G G (MV G G (XC (A:=[.blk E (.cells #[S f.1,I f.2.1,I f.2.2.1,I f.2.2.2.1,S f.2.2.2.2.1,Value.bool f.2.2.2.2.2.1,I f.2.2.2.2.2.2.1,I f.2.2.2.2.2.2.2.1,I f.2.2.2.2.2.2.2.2] 57)]) H (Y0c N) G trivial (q00 G) G Kt ?_)));intro V M w its H O hR;try dsimp only at hR
 obtain⟨rfl,rfl⟩:=hR;simp only[l01,l02] at H;refine ST (q0y G) G (NL (TN ?_));refine q09 G (fun z=>?_) (fun z=>?_)
 ·
  replace z:K=false:=by simpa using z
  subst z;rw[if_neg l00] at h;refine RG (MV G G (FN G G Tu57 G Ts4 G G (q0s [_,_,_,_,_,_,_,_,_] H G G Ku Kf Ts4 (by first|decide|(simp;done)|(simp;omega)) Kf Kf (q00 G) ?_)));intro w H;refine NL ?_;obtain rfl:=oI h;exact q1e (its:=[.blk E (.cells #[S u.1,I u.2.1,I u.2.2.1,I u.2.2.2.1,S u.2.2.2.2.1,Value.bool true,I u.2.2.2.2.2.2.1,I u.2.2.2.2.2.2.2.1,I u.2.2.2.2.2.2.2.2] 57)]) G H Kp ⟨G,G⟩
 replace z:K=true:=by simpa using z
 subst z;rw[if_pos rfl] at h;refine SK ?_;obtain rfl:=oI h;exact q1e (its:=[.blk E (.cells #[S u.1,I u.2.1,I u.2.2.1,I u.2.2.2.1,S u.2.2.2.2.1,Value.bool u.2.2.2.2.2.1,I u.2.2.2.2.2.2.1,I u.2.2.2.2.2.2.2.1,I u.2.2.2.2.2.2.2.2] 57)]) G H Kp ⟨G,G⟩
theorem Y1f {f:Z00}{O:Int}{u:Nat}{r:(Ls × Z00)}(h:Y0E f O=some r):CtX Tryz.prog 51 [ptr u 0,I O] [.blk u (.cells #[S f.1,I f.2.1,I f.2.2.1,I f.2.2.2.1,S f.2.2.2.2.1,Value.bool f.2.2.2.2.2.1,I f.2.2.2.2.2.2.1,I f.2.2.2.2.2.2.2.1,I f.2.2.2.2.2.2.2.2] 57)] (fun M=>True) (fun v M its=>v=S r.1/\its=[.blk u (.cells #[S r.2.1,I r.2.2.1,I r.2.2.2.1,I r.2.2.2.2.1,S r.2.2.2.2.2.1,Value.bool r.2.2.2.2.2.2.1,I r.2.2.2.2.2.2.2.1,I r.2.2.2.2.2.2.2.2.1,I r.2.2.2.2.2.2.2.2.2] 57)]):=by
 refine q0T Tryz.func51 (enters Tryz.func51 Kr G) G G G ?_;intro V M0 H hp;unfold Y0E at h;refine SQ (RG (AS G G (NL (TN (SQ (RG (MV G G (FN G G Tu57 G Ts55 G G (ST (q01 Tu55 G Ts9 Dc G) G (ST (XL H Ta9) G ?_))))))))));refine AS G G (NL (TN (SQ (SQ ?_))));obtain⟨Y,K,h⟩:=bnd h;refine q07 (fun e w =>∃(N:Bool) (M:Mem),e=[(0,ptr u 0),(5,S f.2.2.2.2.1),(23,Value.bool N)]/\StX (feet [.blk u (.cells #[S f.1,I f.2.1,I f.2.2.1,I f.2.2.2.1,S f.2.2.2.2.1,Value.bool f.2.2.2.2.2.1,I f.2.2.2.2.2.2.1,I f.2.2.2.2.2.2.2.1,I f.2.2.2.2.2.2.2.2] 57)]) V M0 M [.blk u (.cells #[S f.1,I f.2.1,I f.2.2.1,I f.2.2.2.1,S f.2.2.2.2.1,Value.bool f.2.2.2.2.2.1,I f.2.2.2.2.2.2.1,I f.2.2.2.2.2.2.2.1,I f.2.2.2.2.2.2.2.2] 57)] w/\some N=some Y) [] ?_ ?_ (trivial)
 ·
  refine RG (MV G G (FN G G Tu57 G Ts4 G G ?_));by_cases E:f.2.2.2.2.2.1=true
  ·
   rw[if_pos E] at K;refine q0l (v' := .bool true) (XL H Ta4) (congrArg Value.bool E) (q00 G) G G ?_;refine MV G G (q06 7 G G (PT G G G (NL ?_)));exact MN ⟨_,_,G,H,K⟩
  rw[if_neg E] at K;refine q0l (v' := .bool false) (XL H Ta4) (congrArg Value.bool (l1d E)) (q00 G) G G ?_;refine MV G G (SG (q02 G) G G G (SG (q0k G) G G G (SG (q01 Tu57 G Ts55 Dc G) G G G (SG (q01 Tu55 G Ts3 Dc G) G G G (SG (XL H Ta3) G G G ?_)))));refine SG (q02 G) G G G (SG (q0E G G) G G G (PF G G G (NL ?_)));exact MN ⟨_,_,G,H,K⟩
 rintro e w ⟨N,M,rfl,H,Z⟩;obtain rfl:=oI Z;refine TN ?_;refine q09 G (fun J=>?_) (fun J=>?_)
 ·
  subst J;rw[if_pos rfl] at h;refine SQ (RG (MV G G (FN G G Tu57 G Ts4 G G (q0s [_,_,_,_,_,_,_,_,_] H G G Ku Kf Ts4 (by first|decide|(simp;done)|(simp;omega)) Kf Kf (q00 G) ?_))));intro w H;refine NL (TN (SQ (RG (AS G G (NL (TN (RT ?_)))))));obtain rfl:=oI h;exact q0x (its:=[.blk u (.cells #[S f.1,I f.2.1,I f.2.2.1,I f.2.2.2.1,S f.2.2.2.2.1,Value.bool true,I f.2.2.2.2.2.2.1,I f.2.2.2.2.2.2.2.1,I f.2.2.2.2.2.2.2.2] 57)]) G G H Kp ⟨G,G⟩
 subst J;rw[if_neg l00] at h;refine SK (TN (SQ ?_));obtain⟨z,U,h⟩:=bnd h;refine RG (MV G G (XC (A:=[.blk u (.cells #[S f.1,I f.2.1,I f.2.2.1,I f.2.2.2.1,S f.2.2.2.2.1,Value.bool f.2.2.2.2.2.1,I f.2.2.2.2.2.2.1,I f.2.2.2.2.2.2.2.1,I f.2.2.2.2.2.2.2.2] 57)]) H (Y2R U) G trivial (q00 G) G Kt ?_));intro a0 M w its H a1 hR;obtain⟨rfl,rfl⟩:=hR;simp only[l01,l02] at H;refine NL (TN (SQ (RG (MV G G (AS G G (NL (TN (RT ?_))))))));obtain rfl:=oI h;exact q0x (its:=[.blk u (.cells #[S z.1,I z.2.1,I z.2.2.1,I z.2.2.2.1,S z.2.2.2.2.1,Value.bool z.2.2.2.2.2.1,I z.2.2.2.2.2.2.1,I z.2.2.2.2.2.2.2.1,I z.2.2.2.2.2.2.2.2] 57)]) G G H Kp ⟨G,G⟩
theorem Y6l  {r:List Ls} (h:Y4m=some r):Ct Tryz.prog 113 [] (fun M=>True) (fun v M=>v=Value.agg (List.map encS r).toArray):=by
 refine Ct.of Tryz.func113 (enters Tryz.func113 Kr G) G G G ?_;intro J M0 H hp;unfold Y4m at h;refine SQ (RG (q0f (List.map encS (List.replicate 3 []:List Ls)) H Tryz.zeroValue176 Kr (q00 G) G ?_));intro E w H;refine NL (TN (SQ ?_));obtain⟨K,f,h⟩:=bnd h;obtain⟨l2,u,h⟩:=bnd h;refine RG (ST (Ex.buildArr [S [105,115],S [99,111,110,116,97,105,110,115],S [108,105,107,101]] Tryz.underlying176 Tryz.zeroValue176 Ts9 G Kr) G (WR.storeA (l2:=([[105,115],[99,111,110,116,97,105,110,115],[108,105,107,101]]:List Ls)) H G G (fun _=>G) (fun _=>by repeat first|exact .head|apply Upd.tail) f u Tryz.sizeOf176 (q00 G) ?_));intro w H;refine NL (TN (RT ?_));obtain⟨N,z,h⟩:=bnd h;obtain rfl:=oI h;exact q08 G ⟨_,G,H.loadAggA Km Tryz.isAgg176 Tryz.sizeOf176 z⟩ H.ext G
theorem Y36 {u:Z00}{K:Z01}{J:Nat}{N:Nat}{f:Value}{r:(Z00 × Z0g)}(h:Y1v u K=some r):CtX Tryz.prog 81 [ptr J 0,ptr N 0] [.blk J (.cells #[S u.1,I u.2.1,I u.2.2.1,I u.2.2.2.1,S u.2.2.2.2.1,Value.bool u.2.2.2.2.2.1,I u.2.2.2.2.2.2.1,I u.2.2.2.2.2.2.2.1,I u.2.2.2.2.2.2.2.2] 57), .blk N (.cells #[I K.1,f,S K.2.2.1,I K.2.2.2.1,S K.2.2.2.2.1,I K.2.2.2.2.2] 89)] (fun M=>SlR xrl89 M f K.2.1) (fun v M its=>v=Value.tuple #[]/\its=[.blk J (.cells #[S r.1.1,I r.1.2.1,I r.1.2.2.1,I r.1.2.2.2.1,S r.1.2.2.2.2.1,Value.bool r.1.2.2.2.2.2.1,I r.1.2.2.2.2.2.2.1,I r.1.2.2.2.2.2.2.2.1,I r.1.2.2.2.2.2.2.2.2] 57), .blk N (.cells #[I r.2.1,f,S r.2.2.2.1,I r.2.2.2.2.1,S r.2.2.2.2.2.1,I r.2.2.2.2.2.2] 89)]):=by
 refine q0T Tryz.func81 (enters Tryz.func81 Kr G) G G G ?_;intro w0 M0 H hp;have z:=hp;unfold Y1v at h;refine SQ (SQ ?_);obtain⟨n1,b5,h⟩:=bnd h;refine RG (q03 H (Y6l b5) G trivial (q00 G) G ?_);intro v6 M w H Z hR;replace z:=z.mono Z;obtain rfl:=hR;refine MV G G (NL (TN ?_));obtain⟨o3,E,h⟩:=bnd h;refine q07 (fun e w =>∃(s5:Ls) (n6:Int) (n7:Int) (n8:Int) (s9:Ls) (an:Bool) (a0:Int) (a1:Int) (a2:Int) (a3:Int) (a4:Ls) (a5:Int) (a6:Ls) (a7:Int) (M:Mem),e=[(0,ptr J 0)]/\StX (feet [.blk J (.cells #[S u.1,I u.2.1,I u.2.2.1,I u.2.2.2.1,S u.2.2.2.2.1,Value.bool u.2.2.2.2.2.1,I u.2.2.2.2.2.2.1,I u.2.2.2.2.2.2.2.1,I u.2.2.2.2.2.2.2.2] 57), .blk N (.cells #[I K.1,f,S K.2.2.1,I K.2.2.2.1,S K.2.2.2.2.1,I K.2.2.2.2.2] 89)]) w0 M0 M [.blk J (.cells #[S s5,I n6,I n7,I n8,S s9,Value.bool an,I a0,I a1,I a2] 57), .blk N (.cells #[I a3,f,S a4,I a5,S a6,I a7] 89)] w/\SlR xrl89 M f K.2.1/\some (.inl (s5,n6,n7,n8,s9,an,a0,a1,a2,a3,a4,a5,a6,a7))=some o3) [] ?_ ?_ (trivial)
 ·
  refine BL (q0p (fun m e w =>∃(a8:Ls) (a9:Int) (aa:Int) (ab:Int) (ac:Ls) (ad:Bool) (ae:Int) (ah:Int) (ai:Int) (aj:Int) (ak:Ls) (ao:Int) (ap:Ls) (al:Int) (am:Int) (M:Mem),e=[(0,ptr J 0),(1,ptr N 0),(6,Value.agg (List.map encS n1).toArray),(7,I am)]/\StX (feet [.blk J (.cells #[S u.1,I u.2.1,I u.2.2.1,I u.2.2.2.1,S u.2.2.2.2.1,Value.bool u.2.2.2.2.2.1,I u.2.2.2.2.2.2.1,I u.2.2.2.2.2.2.2.1,I u.2.2.2.2.2.2.2.2] 57), .blk N (.cells #[I K.1,f,S K.2.2.1,I K.2.2.2.1,S K.2.2.2.2.1,I K.2.2.2.2.2] 89)]) w0 M0 M [.blk J (.cells #[S a8,I a9,I aa,I ab,S ac,Value.bool ad,I ae,I ah,I ai] 57), .blk N (.cells #[I aj,f,S ak,I ao,S ap,I al] 89)] w/\SlR xrl89 M f K.2.1/\Y0w n1 m a8 a9 aa ab ac ad ae ah ai aj ak ao ap al am=some o3) FU [(0,_),(1,_),(6,_),(7,_)] ⟨rfl,rfl,rfl,rfl,trivial⟩ ⟨_,_,_,_,_,_,_,_,_,_,_,_,_,_,_,_,rfl,H,z,E⟩ ?_);rintro aq e w ⟨a8,a9,aa,ab,ac,ad,ae,ah,ai,aj,ak,ao,ap,al,am,M,rfl,H,z,E⟩;rcases aq with _|aq
  · rw[Y0w] at E;cases E
  rw[Y0w] at E;refine SQ (RG (ST (q0n G G) G (NL (TN (SQ ?_)))));refine CB (p:=am<(3:Int)) G (fun V=>?_) fun V=>?_
  ·
   rw[if_pos V] at E;refine SK (TN (SQ (BL (SQ ?_))));obtain⟨ba,ay,E⟩:=bnd E;refine RG (MV G G (ST (Ex.idxAggA (l:=n1) Tryz.underlying176 Ts9 Ta9 G G ay) G (AS G G (AS G G (NL (TN (SQ ?_)))))));obtain⟨⟨bb,O⟩,b2,E⟩:=bnd E;try dsimp only at E
   refine RG (MV G G (MV G G (XC (A:=[.blk J (.cells #[S a8,I a9,I aa,I ab,S ac,Value.bool ad,I ae,I ah,I ai] 57)]) H (Y0c b2) G trivial (q00 G) G Kt ?_)));intro bc M w its H Z hR;replace z:=z.mono Z;try dsimp only at hR
   obtain⟨rfl,rfl⟩:=hR;simp only[l01,l02] at H;refine NL (TN ?_);refine q09 G (fun Y=>?_) (fun Y=>?_)
   ·
    subst Y;rw[if_pos rfl] at E;refine SQ ?_;obtain⟨b7,az,E⟩:=bnd E;obtain⟨⟨b8,U⟩,b3,E⟩:=bnd E;try dsimp only at E
    refine RG (MV G G (MV G G (MV G G (ST (q0b G G az) G (MV G G (XC (A:=[.blk J (.cells #[S O.1,I O.2.1,I O.2.2.1,I O.2.2.2.1,S O.2.2.2.2.1,Value.bool O.2.2.2.2.2.1,I O.2.2.2.2.2.2.1,I O.2.2.2.2.2.2.2.1,I O.2.2.2.2.2.2.2.2] 57)]) H (Y1f b3) G trivial (q00 G) G Kt ?_))))));intro bd M w its H Z hR;try dsimp only at hR
    obtain⟨rfl,rfl⟩:=hR;simp only[l01,l02] at H;refine FN G G Tu89 G Ts3 G G (q0s [_,_,_,_,_,_] H G G Ku Kf Ts3 (by first|decide|(simp;done)|(simp;omega)) Kf Kf (q00 G) ?_);intro w H;refine FN G G Tu89 G Ts9 G G (q0s [_,_,_,_,_,_] H G G Ku Kf Ts9 (by first|decide|(simp;done)|(simp;omega)) Kf Kf (q00 G) ?_);intro w H;refine NL (TN (RT ?_));obtain rfl:=oI E;try dsimp only at h
    obtain rfl:=oI h;exact WQ.retX0 (its:=[.blk J (.cells #[S U.1,I U.2.1,I U.2.2.1,I U.2.2.2.1,S U.2.2.2.2.1,Value.bool U.2.2.2.2.2.1,I U.2.2.2.2.2.2.1,I U.2.2.2.2.2.2.2.1,I U.2.2.2.2.2.2.2.2] 57), .blk N (.cells #[I aj,f,S ak,I b7,S b8,I al] 89)]) G H Kp ⟨G,G⟩
   subst Y;rw[if_neg l00] at E;refine SK (IB (TN ?_));obtain⟨be,b0,E⟩:=bnd E;refine RG (ST (q0b G G b0) G (MV G G (NL ?_)));exact AG aq ⟨_,_,_,_,_,_,_,_,_,_,_,_,_,_,_,_,G,H,z,E⟩ (l04 _)
  rw[if_neg V] at E;refine q0o (q04 (q04 (q0g ?_)));exact MN ⟨_,_,_,_,_,_,_,_,_,_,_,_,_,_,_,G,H,z,E⟩
 rintro e w ⟨s5,n6,n7,n8,s9,an,a0,a1,a2,a3,a4,a5,a6,a7,M,rfl,H,z,b9⟩;obtain rfl:=oI b9;try dsimp only at h
 refine TN (RG (MV G G (FN G G Tu57 G Ts4 G G (q0s [_,_,_,_,_,_,_,_,_] H G G Ku Kf Ts4 (by first|decide|(simp;done)|(simp;omega)) Kf Kf (q00 G) ?_))));intro w H;refine NL ?_;obtain rfl:=oI h;exact q1e (its:=[.blk J (.cells #[S s5,I n6,I n7,I n8,S s9,Value.bool true,I a0,I a1,I a2] 57), .blk N (.cells #[I a3,f,S a4,I a5,S a6,I a7] 89)]) G H Kp ⟨G,G⟩
theorem Y6x {V : Ls}{Z : Int}{r : Z0v}(h : Y3p V Z = some r): Ct Tryz.prog 114 [S V, I Z] (fun M => GlF (fun w => ∃ tp p, w.var? Tryz.prog "strconv.ErrRange" = some #[.iface tp p]) M /\ GlF (fun w => ∃ tp p, w.var? Tryz.prog "strconv.ErrSyntax" = some #[.iface tp p]) M /\ GlF (fun w => Lib.TabIs Tryz.prog w "internal/strconv.uint64pow10" .u64 Lib.pow10Tab) M) (fun v M => v = Value.tuple #[I r.1, Value.bool r.2]) := by
 refine Ct.of Tryz.func114 (enters Tryz.func114 Kr G) G G G ?_;intro w0 M0 H hp;obtain⟨u,z,f⟩:=hp;unfold Y3p at h;refine SQ (RG (AS G G (AS G G (NL (TN (SQ ?_))))));obtain⟨⟨n1,b2⟩,a1,h⟩:=bnd h;try dsimp only at h
 refine RG (MV G G (q03 H (strconv_Atoi_ct a1) G ⟨u,z⟩ (q00 G) G ?_));intro a9 M w H J hR;replace u:=u.mono J;replace z:=z.mono J;replace f:=f.mono J;try dsimp only at hR
 obtain⟨a4,rfl,U⟩:=hR;refine MV G G (ST (q0e G G) G (ST (q0e G G) G (AS G G (AS G G (NL (TN (SQ (SQ ?_))))))));obtain⟨o4,E,h⟩:=bnd h
 refine q07 (fun e w => ∃ (Y : Bool) (M : Mem), e = [(6, I n1), (29, Value.bool Y)] /\ St w0 M0 M [] w /\ GlF (fun w => ∃ tp p, w.var? Tryz.prog "strconv.ErrRange" = some #[.iface tp p]) M /\ GlF (fun w => ∃ tp p, w.var? Tryz.prog "strconv.ErrSyntax" = some #[.iface tp p]) M /\ GlF (fun w => Lib.TabIs Tryz.prog w "internal/strconv.uint64pow10" .u64 Lib.pow10Tab) M /\ some Y = some o4) [] ?_ ?_ (trivial)
 ·
  refine RG (MV G G (ST (Ex.neqNil Tu160 U G) G (MV G G ?_)));rcases b2 with _|_
  ·
   rw[if_neg l00] at E;refine q06 4 G G (PT G G G (MV G G (GT G G G (GT G G G (PT G G G (MV G G (q06 3 G G (PT G G G (NL ?_)))))))));exact MN ⟨_,_,G,H,u,z,f,E⟩
  rw[if_pos rfl] at E;obtain⟨s7,a2,E⟩:=bnd E;refine SG (q02 G) G G G (q03 H (strconv_Itoa_ct a2) G (f) (q0h G G G) G ?_);intro aa M w H J hR;replace u:=u.mono J;replace z:=z.mono J;replace f:=f.mono J;obtain rfl:=hR;refine SG (q02 G) G G G ?_;by_cases O:s7=V
  ·
   rw[if_pos O] at E;refine q0l (v' := .bool false) (q0z G G) (congrArg Value.bool (by rw[decide_eq_true O];rfl)) (q0h G G G) G G ?_;refine PF G G G (MV G G (SG (q02 G) G G G ?_));by_cases K:n1<(0:Int)
   ·
    rw[if_pos K] at E;refine DU K (q0n G G) G G G (PF G G G (MV G G (q06 3 G G (PT G G G (NL ?_)))));exact MN ⟨_,_,G,H,u,z,f,E⟩
   rw[if_neg K] at E;refine DG K (q0n G G) G G G (PF G G G (MV G G (SG (q02 G) G G G (SG (q02 G) G G G (SG (q0H G G) G G G (PF G G G (NL ?_)))))));exact MN ⟨_,_,G,H,u,z,f,E⟩
  rw[if_neg O] at E;refine q0l (v' := .bool true) (q0z G G) (congrArg Value.bool (by rw[decide_eq_false O];rfl)) (q0h G G G) G G ?_;refine PF G G G (MV G G (GT G G G (GT G G G (PT G G G (MV G G (q06 3 G G (PT G G G (NL ?_))))))));exact MN ⟨_,_,G,H,u,z,f,E⟩
 rintro e w ⟨Y,M,rfl,H,u,z,f,a3⟩;obtain rfl:=oI a3;refine TN ?_;refine q09 G (fun N=>?_) (fun N=>?_)
 ·
  subst N;rw[if_pos rfl] at h;refine SQ (RG (AS G G (AS G G (NL (TN (RT ?_))))));obtain rfl:=oI h;exact q0M G G G H.ext G
 subst N;rw[if_neg l00] at h;refine SK (TN (SQ (RG (MV G G (AS G G (AS G G (NL (TN (RT ?_)))))))));obtain rfl:=oI h;exact q0M G G G H.ext G
theorem Y3K {f : Z00}{J : Nat}{r : (Int × Z00)}(h : Y1p f = some r): CtX Tryz.prog 82 [ptr J 0] [.blk J (.cells #[S f.1, I f.2.1, I f.2.2.1, I f.2.2.2.1, S f.2.2.2.2.1, Value.bool f.2.2.2.2.2.1, I f.2.2.2.2.2.2.1, I f.2.2.2.2.2.2.2.1, I f.2.2.2.2.2.2.2.2] 57)] (fun M => GlF (fun w => ∃ tp p, w.var? Tryz.prog "strconv.ErrRange" = some #[.iface tp p]) M /\ GlF (fun w => ∃ tp p, w.var? Tryz.prog "strconv.ErrSyntax" = some #[.iface tp p]) M /\ GlF (fun w => Lib.TabIs Tryz.prog w "internal/strconv.uint64pow10" .u64 Lib.pow10Tab) M) (fun v M its => v = I r.1 /\ its = [.blk J (.cells #[S r.2.1, I r.2.2.1, I r.2.2.2.1, I r.2.2.2.2.1, S r.2.2.2.2.2.1, Value.bool r.2.2.2.2.2.2.1, I r.2.2.2.2.2.2.2.1, I r.2.2.2.2.2.2.2.2.1, I r.2.2.2.2.2.2.2.2.2] 57)]) := by
 refine q0T Tryz.func82 (enters Tryz.func82 Kr G) G G G ?_;intro w0 M0 H hp;obtain⟨z,E,u⟩:=hp;unfold Y1p at h;refine SQ (RG (AS G G (NL (TN (SQ ?_)))));obtain⟨⟨n1,b2⟩,a0,h⟩:=bnd h;try dsimp only at h
 refine RG (MV G G (FN G G Tu57 G Ts55 G G (ST (q01 Tu55 G Ts9 Dc G) G (ST (XL H Ta9) G ?_))));refine q03 H (Y6x a0) G ⟨z,E,u⟩ (q00 G) G ?_;intro a5 M w H N hR;replace z:=z.mono N;replace E:=E.mono N;replace u:=u.mono N;try dsimp only at hR
 obtain rfl:=hR;refine MV G G (ST (q0e G G) G (ST (q0e G G) G (AS G G (AS G G (NL (TN (SQ (SQ ?_))))))));obtain⟨o4,V,h⟩:=bnd h
 refine q07 (fun e w => ∃ (Y : Bool) (M : Mem), e = [(0, ptr J 0), (3, I n1), (23, Value.bool Y)] /\ StX (feet [.blk J (.cells #[S f.1, I f.2.1, I f.2.2.1, I f.2.2.2.1, S f.2.2.2.2.1, Value.bool f.2.2.2.2.2.1, I f.2.2.2.2.2.2.1, I f.2.2.2.2.2.2.2.1, I f.2.2.2.2.2.2.2.2] 57)]) w0 M0 M [.blk J (.cells #[S f.1, I f.2.1, I f.2.2.1, I f.2.2.2.1, S f.2.2.2.2.1, Value.bool f.2.2.2.2.2.1, I f.2.2.2.2.2.2.1, I f.2.2.2.2.2.2.2.1, I f.2.2.2.2.2.2.2.2] 57)] w /\ GlF (fun w => ∃ tp p, w.var? Tryz.prog "strconv.ErrRange" = some #[.iface tp p]) M /\ GlF (fun w => ∃ tp p, w.var? Tryz.prog "strconv.ErrSyntax" = some #[.iface tp p]) M /\ GlF (fun w => Lib.TabIs Tryz.prog w "internal/strconv.uint64pow10" .u64 Lib.pow10Tab) M /\ some Y = some o4) [] ?_ ?_ (trivial)
 ·
  refine RG (MV G G (FN G G Tu57 G Ts55 G G (ST (q01 Tu55 G Ts3 Dc G) G (ST (XL H Ta3) G ?_))));by_cases O:f.2.2.1=(3:Int)
  ·
   rw[if_pos O] at V;refine q0l (v' := .bool false) (q0E G G) (congrArg Value.bool (by rw[decide_eq_true O];rfl)) (q00 G) G G ?_;refine MV G G (SG (q02 G) G G G (SG (q0y G) G G G (PF G G G (NL ?_))));exact MN ⟨_,_,G,H,z,E,u,V⟩
  rw[if_neg O] at V;refine q0l (v' := .bool true) (q0E G G) (congrArg Value.bool (by rw[decide_eq_false O];rfl)) (q00 G) G G ?_;refine MV G G (GT G G G (GT G G G (PT G G G (NL ?_))));exact MN ⟨_,_,G,H,z,E,u,V⟩
 rintro e w ⟨Y,M,rfl,H,z,E,u,q8⟩;obtain rfl:=oI q8;refine TN ?_;refine q09 G (fun U=>?_) (fun U=>?_)
 ·
  subst U;rw[if_pos rfl] at h;refine SQ (RG (MV G G (FN G G Tu57 G Ts4 G G (q0s [_,_,_,_,_,_,_,_,_] H G G Ku Kf Ts4 (by first|decide|(simp;done)|(simp;omega)) Kf Kf (q00 G) ?_))));intro w H;refine NL (TN (SQ (RG (AS G G (NL (TN (RT ?_)))))));obtain rfl:=oI h;exact q0x (its:=[.blk J (.cells #[S f.1,I f.2.1,I f.2.2.1,I f.2.2.2.1,S f.2.2.2.2.1,Value.bool true,I f.2.2.2.2.2.2.1,I f.2.2.2.2.2.2.2.1,I f.2.2.2.2.2.2.2.2] 57)]) G G H Kp ⟨G,G⟩
 subst U;rw[if_neg l00] at h;refine SK (TN (SQ ?_));obtain⟨⟨a6,K⟩,Z,h⟩:=bnd h;try dsimp only at h
 refine RG (MV G G (XC (A:=[.blk J (.cells #[S f.1,I f.2.1,I f.2.2.1,I f.2.2.2.1,S f.2.2.2.2.1,Value.bool f.2.2.2.2.2.1,I f.2.2.2.2.2.2.1,I f.2.2.2.2.2.2.2.1,I f.2.2.2.2.2.2.2.2] 57)]) H (Y1f Z) G trivial (q00 G) G Kt ?_));intro a7 M w its H N hR;try dsimp only at hR
 obtain⟨rfl,rfl⟩:=hR;simp only[l01,l02] at H;refine NL (TN (SQ (RG (MV G G (AS G G (NL (TN (RT ?_))))))));obtain rfl:=oI h;exact q0x (its:=[.blk J (.cells #[S K.1,I K.2.1,I K.2.2.1,I K.2.2.2.1,S K.2.2.2.2.1,Value.bool K.2.2.2.2.2.1,I K.2.2.2.2.2.2.1,I K.2.2.2.2.2.2.2.1,I K.2.2.2.2.2.2.2.2] 57)]) G G H Kp ⟨G,G⟩
theorem Y4h {self : Z00 -> Option Z0I}(ih : ∀ {E : Z00} {K : Nat} {r : Z0I}, self E = some r -> CtX Tryz.prog 49 [ptr K 0] [.blk K (.cells #[S E.1, I E.2.1, I E.2.2.1, I E.2.2.2.1, S E.2.2.2.2.1, Value.bool E.2.2.2.2.2.1, I E.2.2.2.2.2.2.1, I E.2.2.2.2.2.2.2.1, I E.2.2.2.2.2.2.2.2] 57)] (fun M => GlF (fun w => ∃ tp p, w.var? Tryz.prog "strconv.ErrRange" = some #[.iface tp p]) M /\ GlF (fun w => ∃ tp p, w.var? Tryz.prog "strconv.ErrSyntax" = some #[.iface tp p]) M /\ GlF (fun w => Lib.TabIs Tryz.prog w "internal/strconv.uint64pow10" .u64 Lib.pow10Tab) M) (fun v M its => ∃ b0, v = Value.agg #[I r.1.1, b0, S r.1.2.2.1, I r.1.2.2.2.1, S r.1.2.2.2.2.1, I r.1.2.2.2.2.2] /\ SlR xrl89 M b0 r.1.2.1 /\ its = [.blk K (.cells #[S r.2.1, I r.2.2.1, I r.2.2.2.1, I r.2.2.2.2.1, S r.2.2.2.2.2.1, Value.bool r.2.2.2.2.2.2.1, I r.2.2.2.2.2.2.2.1, I r.2.2.2.2.2.2.2.2.1, I r.2.2.2.2.2.2.2.2.2] 57)])){E : Z00}{K : Nat}{r : (List BT88 × Z00)}(h : Y2e self E = some r): CtX Tryz.prog 80 [ptr K 0] [.blk K (.cells #[S E.1, I E.2.1, I E.2.2.1, I E.2.2.2.1, S E.2.2.2.2.1, Value.bool E.2.2.2.2.2.1, I E.2.2.2.2.2.2.1, I E.2.2.2.2.2.2.2.1, I E.2.2.2.2.2.2.2.2] 57)] (fun M => GlF (fun w => ∃ tp p, w.var? Tryz.prog "strconv.ErrRange" = some #[.iface tp p]) M /\ GlF (fun w => ∃ tp p, w.var? Tryz.prog "strconv.ErrSyntax" = some #[.iface tp p]) M /\ GlF (fun w => Lib.TabIs Tryz.prog w "internal/strconv.uint64pow10" .u64 Lib.pow10Tab) M) (fun v M its => ∃ x0, v = x0 /\ SlR xrl89 M x0 r.1 /\ its = [.blk K (.cells #[S r.2.1, I r.2.2.1, I r.2.2.2.1, I r.2.2.2.2.1, S r.2.2.2.2.2.1, Value.bool r.2.2.2.2.2.2.1, I r.2.2.2.2.2.2.2.1, I r.2.2.2.2.2.2.2.2.1, I r.2.2.2.2.2.2.2.2.2] 57)]) := by
 refine q0T Tryz.func80 (enters Tryz.func80 Kr G) G G G ?_;intro w0 M0 H hp;obtain⟨u,z,f⟩:=hp;unfold Y2e at h;refine SQ (RG (AS G G (NL (TN (SQ ?_)))));obtain⟨o1,bo,h⟩:=bnd h;refine RG (MV G G (XC (A:=[.blk K (.cells #[S E.1,I E.2.1,I E.2.2.1,I E.2.2.2.1,S E.2.2.2.2.1,Value.bool E.2.2.2.2.2.1,I E.2.2.2.2.2.2.1,I E.2.2.2.2.2.2.2.1,I E.2.2.2.2.2.2.2.2] 57)]) H (Y1e bo) G trivial (q00 G) G Kt ?_));intro v5 M w its H J hR;replace u:=u.mono J;replace z:=z.mono J;replace f:=f.mono J;obtain⟨rfl,rfl⟩:=hR;simp only[l01,l02] at H;refine NL (TN (SQ ?_));obtain⟨⟨⟨n3,l4,s5,n6,s7,n8⟩,o9⟩,be,h⟩:=bnd h;try dsimp only at h
 refine RG (MV G G (XC (A:=[.blk K (.cells #[S o1.1,I o1.2.1,I o1.2.2.1,I o1.2.2.2.1,S o1.2.2.2.2.1,Value.bool o1.2.2.2.2.2.1,I o1.2.2.2.2.2.2.1,I o1.2.2.2.2.2.2.2.1,I o1.2.2.2.2.2.2.2.2] 57)]) H (ih be) G ⟨u,z,f⟩ (q00 G) G Kt ?_));intro v7 M w its H J hR;replace u:=u.mono J;replace z:=z.mono J;replace f:=f.mono J;try dsimp only at hR
 obtain⟨bq,rfl,Z,rfl⟩:=hR;simp only[l01,l02] at H;have Hn:=H;obtain⟨a6,rfl⟩:=Z.hd;have H:=Hn;refine WR.litRS (enc:=xrl89.enc) xty87 ([(n3,a6,s5,n6,s7,n8)]:List Z06) H (fun _=>G) G Kr G G G (q00 G) G ?_;intro v8 w H;first|have b7:RelL xrl89 M ([(n3,a6,s5,n6,s7,n8)]:List Z06) ([(BT88.of (n3,l4,s5,n6,s7,n8))]:List BT88):=⟨(rmk88 ⟨rfl,Z,rfl,rfl,rfl,rfl⟩),trivial⟩|have b7:RelL xrl89 M0 ([(n3,a6,s5,n6,s7,n8)]:List Z06) ([(BT88.of (n3,l4,s5,n6,s7,n8))]:List BT88):=⟨(rmk88 ⟨rfl,Z,rfl,rfl,rfl,rfl⟩),trivial⟩
 refine AS G G (NL (TN (SQ ?_)));obtain⟨b8,N,h⟩:=bnd h
 refine q07 (fun e w => ∃ (a7 : Ls) (a8 : Int) (a9 : Int) (aa : Int) (ab : Ls) (ac : Bool) (ad : Int) (ae : Int) (ah : Int) (b1 : List BT88) (ai : Value) (b2 : List Z06) (M : Mem), e = [(0, ptr K 0), (3, ai)] /\ StX (feet [.blk K (.cells #[S E.1, I E.2.1, I E.2.2.1, I E.2.2.2.1, S E.2.2.2.2.1, Value.bool E.2.2.2.2.2.1, I E.2.2.2.2.2.2.1, I E.2.2.2.2.2.2.2.1, I E.2.2.2.2.2.2.2.2] 57)]) w0 M0 M [.blk K (.cells #[S a7, I a8, I a9, I aa, S ab, Value.bool ac, I ad, I ae, I ah] 57), RowS 89 xrl89.k xrl89.enc ai b2] w /\ GlF (fun w => ∃ tp p, w.var? Tryz.prog "strconv.ErrRange" = some #[.iface tp p]) M /\ GlF (fun w => ∃ tp p, w.var? Tryz.prog "strconv.ErrSyntax" = some #[.iface tp p]) M /\ GlF (fun w => Lib.TabIs Tryz.prog w "internal/strconv.uint64pow10" .u64 Lib.pow10Tab) M /\ RelL xrl89 M b2 b1 /\ some (a7, a8, a9, aa, ab, ac, ad, ae, ah, b1) = some b8) [] ?_ ?_ (trivial)
 ·
  refine BL ?_
  refine q0p (fun m e w => ∃ (aj : Ls) (ak : Int) (al : Int) (am : Int) (an : Ls) (ao : Bool) (ap : Int) (aq : Int) (ar : Int) (au : List BT88) (b3 : Value) (b4 : List Z06) (M : Mem), e = [(0, ptr K 0), (3, b3)] /\ StX (feet [.blk K (.cells #[S E.1, I E.2.1, I E.2.2.1, I E.2.2.2.1, S E.2.2.2.2.1, Value.bool E.2.2.2.2.2.1, I E.2.2.2.2.2.2.1, I E.2.2.2.2.2.2.2.1, I E.2.2.2.2.2.2.2.2] 57)]) w0 M0 M [.blk K (.cells #[S aj, I ak, I al, I am, S an, Value.bool ao, I ap, I aq, I ar] 57), RowS 89 xrl89.k xrl89.enc b3 b4] w /\ GlF (fun w => ∃ tp p, w.var? Tryz.prog "strconv.ErrRange" = some #[.iface tp p]) M /\ GlF (fun w => ∃ tp p, w.var? Tryz.prog "strconv.ErrSyntax" = some #[.iface tp p]) M /\ GlF (fun w => Lib.TabIs Tryz.prog w "internal/strconv.uint64pow10" .u64 Lib.pow10Tab) M /\ RelL xrl89 M b4 au /\ Y0Y self m aj ak al am an ao ap aq ar au = some b8) FU [(0, _), (3, _)] ⟨rfl, rfl, trivial⟩ ⟨_, _, _, _, _, _, _, _, _, _, _, _, _, rfl, (H.pick (L' := [.blk K (.cells #[S o9.1, I o9.2.1, I o9.2.2.1, I o9.2.2.2.1, S o9.2.2.2.2.1, Value.bool o9.2.2.2.2.2.1, I o9.2.2.2.2.2.2.1, I o9.2.2.2.2.2.2.2.1, I o9.2.2.2.2.2.2.2.2] 57), RowS 89 xrl89.k xrl89.enc v8 ([(n3, a6, s5, n6, s7, n8)] : List Z06)]) Kp), u, z, f, b7, N⟩ ?_
  rintro b5 e w ⟨aj,ak,al,am,an,ao,ap,aq,ar,au,b3,b4,M,rfl,H,u,z,f,O,N⟩;rcases b5 with _|b5
  · rw[Y0Y] at N;cases N
  rw[Y0Y] at N;refine SQ (SQ ?_);obtain⟨⟨bv,V⟩,bf,N⟩:=bnd N;try dsimp only at N
  refine RG (MV G G (XC (A:=[.blk K (.cells #[S aj,I ak,I al,I am,S an,Value.bool ao,I ap,I aq,I ar] 57)]) H (Y0c bf) G trivial (q00 G) G Kt ?_));intro bw M w its H J hR;replace u:=u.mono J;replace z:=z.mono J;replace f:=f.mono J;replace O:=O.mono J;try dsimp only at hR
  obtain⟨rfl,rfl⟩:=hR;simp only[l01,l02] at H;refine NL (TN ?_);refine q09 G (fun a3=>?_) (fun a3=>?_)
  ·
   subst a3;rw[if_pos rfl] at N;refine SK (TN (BL ?_));obtain⟨⟨⟨b9,br,ba,bb,bc,bd⟩,bx⟩,bg,N⟩:=bnd N;try dsimp only at N
   obtain⟨bz,b6,N⟩:=bnd N;refine RG (MV G G (MV G G (XC (A:=[.blk K (.cells #[S V.1,I V.2.1,I V.2.2.1,I V.2.2.2.1,S V.2.2.2.2.1,Value.bool V.2.2.2.2.2.1,I V.2.2.2.2.2.2.1,I V.2.2.2.2.2.2.2.1,I V.2.2.2.2.2.2.2.2] 57)]) H (ih bg) G ⟨u,z,f⟩ (q00 G) G Kt ?_)));intro c0 M w its H J hR;replace u:=u.mono J;replace z:=z.mono J;replace f:=f.mono J;replace O:=O.mono J;try dsimp only at hR
   obtain⟨bj,rfl,U,rfl⟩:=hR;simp only[l01,l02] at H;have Hn:=H;obtain⟨bs,rfl⟩:=U.hd;have H:=Hn;refine q0Q (enc:=xrl89.enc) xty87 ([(b9,bs,ba,bb,bc,bd)]:List Z06) H (fun _=>G) G Kr G G G (q00 G) G ?_;intro c1 M w H J a4;replace u:=u.mono J;replace z:=z.mono J;replace f:=f.mono J;replace O:=O.mono J;replace U:=U.mono J;replace a4:=q1q (R:=xrl89) (l:=([(BT88.of (b9,br,ba,bb,bc,bd))]:List BT88)) a4 ⟨(rmk88 ⟨rfl,U,rfl,rfl,rfl,rfl⟩),trivial⟩;refine WR.appRC (R:=xrl89) (l:=au) xty87 G H O G (fun _=>by repeat first|exact .head|apply Upd.tail) G (a4) b6 (q00 G) G ?_;intro c2 c3 w bh H;refine AS G G (NL (IB ?_));exact AG b5 ⟨_,_,_,_,_,_,_,_,_,_,_,_,_,G,H,u,z,f,bh,N⟩ (l04 _)
  subst a3;rw[if_neg l00] at N;refine q0o (q04 (q04 (q0g ?_)));exact MN ⟨_,_,_,_,_,_,_,_,_,_,_,_,_,G,H,u,z,f,O,N⟩
 rintro e w ⟨a7,a8,a9,aa,ab,ac,ad,ae,ah,b1,ai,b2,M,rfl,H,u,z,f,a0,bt⟩;obtain rfl:=oI bt;try dsimp only at h
 refine TN (SQ ?_);obtain⟨Y,bi,h⟩:=bnd h;refine RG (MV G G (XC (A:=[.blk K (.cells #[S a7,I a8,I a9,I aa,S ab,Value.bool ac,I ad,I ae,I ah] 57)]) H (Y1e bi) G trivial (q00 G) G Kt ?_));intro c4 M w its H J hR;replace a0:=a0.mono J;obtain⟨rfl,rfl⟩:=hR;simp only[l01,l02] at H;refine NL (TN (SQ (RG (MV G G (AS G G (NL (TN (RT ?_))))))));obtain⟨M,J,a5,H⟩:=H.freezeRowSN (v:=ai) (enc:=xrl89.enc) (t:=89) Kv (fun _=>rfl) ⟨⟨_,Km⟩,trivial⟩;replace a0:=a0.mono J;replace a5:=q1q (R:=xrl89) a5 a0;obtain rfl:=oI h;exact q0x (its:=[.blk K (.cells #[S Y.1,I Y.2.1,I Y.2.2.1,I Y.2.2.2.1,S Y.2.2.2.2.1,Value.bool Y.2.2.2.2.2.1,I Y.2.2.2.2.2.2.1,I Y.2.2.2.2.2.2.2.1,I Y.2.2.2.2.2.2.2.2] 57)]) G G H Kp ⟨_,G,a5,G⟩
end Go.Proofs.YtgicephoflppiaaGreatDoor
end
section
namespace Go.Proofs.YtgicephoflppiaaGreatDoor
open Go Go.RowKit Go.Ph Go.Ph.Pl Go.Ph.Pf
set_option maxHeartbeats 4000000 in
theorem Y5c {self : Z00 -> Option Z0I} (ih : ∀ {N : Z00} {K : Nat} {r : Z0I}, self N = some r -> CtX Tryz.prog 49 [ptr K 0] [.blk K (.cells #[S N.1, I N.2.1, I N.2.2.1, I N.2.2.2.1, S N.2.2.2.2.1, Value.bool N.2.2.2.2.2.1, I N.2.2.2.2.2.2.1, I N.2.2.2.2.2.2.2.1, I N.2.2.2.2.2.2.2.2] 57)] (fun M => GlF (fun w => ∃ tp p, w.var? Tryz.prog "strconv.ErrRange" = some #[.iface tp p]) M /\ GlF (fun w => ∃ tp p, w.var? Tryz.prog "strconv.ErrSyntax" = some #[.iface tp p]) M /\ GlF (fun w => Lib.TabIs Tryz.prog w "internal/strconv.uint64pow10" .u64 Lib.pow10Tab) M) (fun v M its => ∃ ae, v = Value.agg #[I r.1.1, ae, S r.1.2.2.1, I r.1.2.2.2.1, S r.1.2.2.2.2.1, I r.1.2.2.2.2.2] /\ SlR xrl89 M ae r.1.2.1 /\ its = [.blk K (.cells #[S r.2.1, I r.2.2.1, I r.2.2.2.1, I r.2.2.2.2.1, S r.2.2.2.2.2.1, Value.bool r.2.2.2.2.2.2.1, I r.2.2.2.2.2.2.2.1, I r.2.2.2.2.2.2.2.2.1, I r.2.2.2.2.2.2.2.2.2] 57)])) {N : Z00} {K : Nat} {r : Z0I} (h : Y2i self N = some r) : CtX Tryz.prog 49 [ptr K 0] [.blk K (.cells #[S N.1, I N.2.1, I N.2.2.1, I N.2.2.2.1, S N.2.2.2.2.1, Value.bool N.2.2.2.2.2.1, I N.2.2.2.2.2.2.1, I N.2.2.2.2.2.2.2.1, I N.2.2.2.2.2.2.2.2] 57)] (fun M => GlF (fun w => ∃ tp p, w.var? Tryz.prog "strconv.ErrRange" = some #[.iface tp p]) M /\ GlF (fun w => ∃ tp p, w.var? Tryz.prog "strconv.ErrSyntax" = some #[.iface tp p]) M /\ GlF (fun w => Lib.TabIs Tryz.prog w "internal/strconv.uint64pow10" .u64 Lib.pow10Tab) M) (fun v M its => ∃ ae, v = Value.agg #[I r.1.1, ae, S r.1.2.2.1, I r.1.2.2.2.1, S r.1.2.2.2.2.1, I r.1.2.2.2.2.2] /\ SlR xrl89 M ae r.1.2.1 /\ its = [.blk K (.cells #[S r.2.1, I r.2.2.1, I r.2.2.2.1, I r.2.2.2.2.1, S r.2.2.2.2.2.1, Value.bool r.2.2.2.2.2.2.1, I r.2.2.2.2.2.2.2.1, I r.2.2.2.2.2.2.2.2.1, I r.2.2.2.2.2.2.2.2.2] 57)]) := by
 refine CtX.ofD Tryz.func49 (enters Tryz.func49 Kr G) G G G ?_;intro w0 M0 H hp;obtain⟨E,J,u⟩:=hp;unfold Y2i at h;refine SQ (RG (q0I [_] H G G (q00 G) G ?_));intro ax w H;refine q0f [_,_,_,_,_,_] H Tz89 G (q00 G) G ?_;intro ay w H;refine NL (TN (SQ ?_));obtain⟨n1,br,h⟩:=bnd h;refine RG (ST (XL H Ta53) G ?_);refine FN G G Tu57 G Ts3 G G (ST (XL H Ta3) G ?_);refine ST (q0b G G br) G (FN G G Tu57 G Ts3 G G (q0s [_,_,_,_,_,_,_,_,_] H G G Ku Kf Ts3 (by first|decide|(simp;done)|(simp;omega)) Kf Kf (q00 G) ?_));intro w H;refine NL (TN (SQ (RG ?_)));obtain⟨M,z,f,H⟩:=H.freezeVarN (b:=ax) Kv ⟨⟨_,Km⟩,trivial⟩;replace E:=E.mono z;replace J:=J.mono z;replace u:=u.mono z;refine ST (q1m G) G (WR.deferS (cap:=[ptr ax 0]) G (q00 G) (NL (TN (SQ (RG (ST (q0A [I 0,Value.slice none 0 0,S [],I 0,S [],I 0] Tu89 Tz89 (xplaces89 Tu89) G Kr) G (q0f [_,_,_,_,_,_] H Tz89 G (q00 G) G ?_)))))));intro ah w H;refine q05 [_,_,_,_,_,_] H G G G Ku Ts89 G Kf Kf (q00 G) ?_;intro w H;refine NL (TN (SQ (SQ (RG (ST (q0m H G (f.cell (j:=0) G) Ta53) G (FN G G Tu57 G Ts3 G G (ST (XL H Ta3) G ?_)))))));refine ST (q0H G G) G (NL (TN ?_));obtain⟨o3,e4,h⟩:=bnd h
 refine q07 (fun e w => ∃ (s5 : Ls) (n6 : Int) (n7 : Int) (n8 : Int) (s9 : Ls) (az : Bool) (b0 : Int) (b1 : Int) (b2 : Int) (M : Mem), e = [(1, ptr ax 0), (2, ptr ay 0), (3, ptr ah 0)] /\ StX (feet [.blk K (.cells #[S N.1, I N.2.1, I N.2.2.1, I N.2.2.2.1, S N.2.2.2.2.1, Value.bool N.2.2.2.2.2.1, I N.2.2.2.2.2.2.1, I N.2.2.2.2.2.2.2.1, I N.2.2.2.2.2.2.2.2] 57)]) w0 M0 M [.blk K (.cells #[S s5, I n6, I n7, I n8, S s9, Value.bool az, I b0, I b1, I b2] 57), .blk ay (.cells #[I 0, Value.slice none 0 0, S [], I 0, S [], I 0] 89), .blk ah (.cells #[I 0, Value.slice none 0 0, S [], I 0, S [], I 0] 89)] w /\ GlF (fun w => ∃ tp p, w.var? Tryz.prog "strconv.ErrRange" = some #[.iface tp p]) M /\ GlF (fun w => ∃ tp p, w.var? Tryz.prog "strconv.ErrSyntax" = some #[.iface tp p]) M /\ GlF (fun w => Lib.TabIs Tryz.prog w "internal/strconv.uint64pow10" .u64 Lib.pow10Tab) M /\ PtM M ax (.cells #[ptr K 0] 53) /\ some (s5, n6, n7, n8, s9, az, b0, b1, b2) = some o3) [] ?_ ?_ (trivial)
 ·
  refine CB (p:=(8:Int)<n1) G (fun al=>?_) fun al=>?_
  ·
   rw[if_pos al] at e4;refine RG (ST (q0m H G (f.cell (j:=0) G) Ta53) G (FN G G Tu57 G Ts4 G G (q0s [_,_,_,_,_,_,_,_,_] H G G Ku Kf Ts4 (by first|decide|(simp;done)|(simp;omega)) Kf Kf (q00 G) ?_)));intro w H;refine NL ?_;exact MN ⟨_,_,_,_,_,_,_,_,_,_,G,(H.pick (L':=[.blk K (.cells #[S N.1,I N.2.1,I N.2.2.1,I N.2.2.2.1,S N.2.2.2.2.1,Value.bool true,I N.2.2.2.2.2.2.1,I N.2.2.2.2.2.2.2.1,I n1] 57), .blk ay (.cells #[I 0,Value.slice none 0 0,S [],I 0,S [],I 0] 89), .blk ah (.cells #[I 0,Value.slice none 0 0,S [],I 0,S [],I 0] 89)]) Kp),E,J,u,f,e4⟩
  rw[if_neg al] at e4;refine SK ?_;exact MN ⟨_,_,_,_,_,_,_,_,_,_,G,(H.pick (L':=[.blk K (.cells #[S N.1,I N.2.1,I N.2.2.1,I N.2.2.2.1,S N.2.2.2.2.1,Value.bool N.2.2.2.2.2.1,I N.2.2.2.2.2.2.1,I N.2.2.2.2.2.2.2.1,I n1] 57), .blk ay (.cells #[I 0,Value.slice none 0 0,S [],I 0,S [],I 0] 89), .blk ah (.cells #[I 0,Value.slice none 0 0,S [],I 0,S [],I 0] 89)]) Kp),E,J,u,f,e4⟩
 rintro e w ⟨s5,n6,n7,n8,s9,az,b0,b1,b2,M,rfl,H,E,J,u,f,cc⟩;obtain rfl:=oI cc;try dsimp only at h
 refine TN (SQ (BL (SQ ?_)));obtain⟨⟨cu,a2⟩,bs,h⟩:=bnd h;try dsimp only at h
 refine RG (ST (q0m H G (f.cell (j:=0) G) Ta53) G (XC (A:=[.blk K (.cells #[S s5,I n6,I n7,I n8,S s9,Value.bool az,I b0,I b1,I b2] 57)]) H (Y0c bs) G trivial (q00 G) G Kt ?_));intro cv M w its H z hR;replace E:=E.mono z;replace J:=J.mono z;replace u:=u.mono z;replace f:=f.mono z;try dsimp only at hR
 obtain⟨rfl,rfl⟩:=hR;simp only[l01,l02] at H;refine AS G G (NL (TN ?_));refine q09 G (fun am=>?_) (fun am=>?_)
 ·
  subst am;rw[if_pos rfl] at h;refine RG (ST (q01 Tu89 G Ts3 Dc G) G (q0s [_,_,_,_,_,_] H G G Ku Kf Ts3 (by first|decide|(simp;done)|(simp;omega)) Kf Kf (q00 G) ?_));intro w H;refine NL (IB (TN (SQ (RG (ST (q0a H G Km Ta89 Ts89 Kf) G ?_)))));refine q05 [_,_,_,_,_,_] H G G G Ku Ts89 G Kf Kf (q00 G) ?_;intro w H;refine NL (TN (RT ?_));refine q1r (n':=8) Tf79 (enters Tf79 Kr G) G G G (fun a ha=>?_);obtain⟨cd,b9,h⟩:=bnd h;refine RG (ST (q0m H G (f.cell (j:=0) G) Ta53) G (FN G G Tu57 G Ts3 G G (ST (XL H Ta3) G ?_)));refine ST (q0W G G b9) G (FN G G Tu57 G Ts3 G G (q0s [_,_,_,_,_,_,_,_,_] H G G Ku Kf Ts3 (by first|decide|(simp;done)|(simp;omega)) Kf Kf (q00 G) ?_));intro w H;refine NL ?_;obtain rfl:=oI h;exact q1p (its:=[.blk K (.cells #[S a2.1,I a2.2.1,I a2.2.2.1,I a2.2.2.2.1,S a2.2.2.2.2.1,Value.bool a2.2.2.2.2.2.1,I a2.2.2.2.2.2.2.1,I a2.2.2.2.2.2.2.2.1,I cd] 57)]) G G ha ⟨_,G,H.loadAgg Km Ta89 Ts89 Kf⟩ H Kp ⟨_,G,q0U,G⟩
 subst am;rw[if_neg l00] at h;refine SQ ?_;obtain⟨⟨cw,O⟩,bt,h⟩:=bnd h;try dsimp only at h
 refine RG (ST (q0m H G (f.cell (j:=0) G) Ta53) G (XC (A:=[.blk K (.cells #[S a2.1,I a2.2.1,I a2.2.2.1,I a2.2.2.2.1,S a2.2.2.2.2.1,Value.bool a2.2.2.2.2.2.1,I a2.2.2.2.2.2.2.1,I a2.2.2.2.2.2.2.2.1,I a2.2.2.2.2.2.2.2.2] 57)]) H (Y0c bt) G trivial (q00 G) G Kt ?_));intro cx M w its H z hR;replace E:=E.mono z;replace J:=J.mono z;replace u:=u.mono z;replace f:=f.mono z;try dsimp only at hR
 obtain⟨rfl,rfl⟩:=hR;simp only[l01,l02] at H;refine AS G G (NL (TN ?_));refine q09 G (fun an=>?_) (fun an=>?_)
 ·
  subst an;rw[if_pos rfl] at h;obtain⟨⟨⟨bj,ce,bm,bn,bo,bp⟩,a6⟩,bu,h⟩:=bnd h;try dsimp only at h
  refine RG (ST (q0m H G (f.cell (j:=0) G) Ta53) G (XC (A:=[.blk K (.cells #[S O.1,I O.2.1,I O.2.2.1,I O.2.2.2.1,S O.2.2.2.2.1,Value.bool O.2.2.2.2.2.1,I O.2.2.2.2.2.2.1,I O.2.2.2.2.2.2.2.1,I O.2.2.2.2.2.2.2.2] 57)]) H (ih bu) G ⟨E,J,u⟩ (q00 G) G Kt ?_));intro cy M w its H z hR;replace f:=f.mono z;try dsimp only at hR
  obtain⟨cb,rfl,a4,rfl⟩:=hR;simp only[l01,l02] at H;have Hn:=H;obtain⟨cf,rfl⟩:=a4.hd;have H:=Hn;refine q0Q (enc:=xrl89.enc) xty87 ([(bj,cf,bm,bn,bo,bp)]:List Z06) H (fun _=>G) G Kr G G G (q00 G) G ?_;intro cz M w H z ai;replace f:=f.mono z;replace a4:=a4.mono z;replace ai:=q1q (R:=xrl89) (l:=([(BT88.of (bj,ce,bm,bn,bo,bp))]:List BT88)) ai ⟨(rmk88 ⟨rfl,a4,rfl,rfl,rfl,rfl⟩),trivial⟩;refine ST (q01 Tu89 G Ts3 Dc G) G (q0s [_,_,_,_,_,_] H G G Ku Kf Ts3 (by first|decide|(simp;done)|(simp;omega)) Kf Kf (q00 G) ?_);intro w H;refine ST (q01 Tu89 G Ts87 Dc G) G (q0J [_,_,_,_,_,_] H G G (ai.one) Ku Kf Ts87 (by first|decide|(simp;done)|(simp;omega)) (q00 G) ?_);intro w H;refine NL (IB (TN (SQ (RG (ST (q0a H G Km Ta89 Ts89 Kf) G ?_)))));refine q05 [_,_,_,_,_,_] H G G G Ku Ts89 G Kf (by simp only[l0f,l0j,(ai).one.2];rfl) (q00 G) ?_;intro w H;refine NL (TN (RT ?_));refine q1r (n':=8) Tf79 (enters Tf79 Kr G) G G G (fun a ha=>?_);obtain⟨cg,ba,h⟩:=bnd h;refine RG (ST (q0m H G (f.cell (j:=0) G) Ta53) G (FN G G Tu57 G Ts3 G G (ST (XL H Ta3) G ?_)));refine ST (q0W G G ba) G (FN G G Tu57 G Ts3 G G (q0s [_,_,_,_,_,_,_,_,_] H G G Ku Kf Ts3 (by first|decide|(simp;done)|(simp;omega)) Kf Kf (q00 G) ?_));intro w H;refine NL ?_;obtain rfl:=oI h;exact q1p (its:=[.blk K (.cells #[S a6.1,I a6.2.1,I a6.2.2.1,I a6.2.2.2.1,S a6.2.2.2.2.1,Value.bool a6.2.2.2.2.2.1,I a6.2.2.2.2.2.2.1,I a6.2.2.2.2.2.2.2.1,I cg] 57)]) G G ha ⟨_,G,H.loadAgg Km Ta89 Ts89 Kf⟩ H Kp ⟨_,G,ai,G⟩
 subst an;rw[if_neg l00] at h;refine SQ ?_;obtain⟨⟨d0,U⟩,bv,h⟩:=bnd h;try dsimp only at h
 refine RG (ST (q0m H G (f.cell (j:=0) G) Ta53) G (XC (A:=[.blk K (.cells #[S O.1,I O.2.1,I O.2.2.1,I O.2.2.2.1,S O.2.2.2.2.1,Value.bool O.2.2.2.2.2.1,I O.2.2.2.2.2.2.1,I O.2.2.2.2.2.2.2.1,I O.2.2.2.2.2.2.2.2] 57)]) H (Y0c bv) G trivial (q00 G) G Kt ?_));intro d1 M w its H z hR;replace E:=E.mono z;replace J:=J.mono z;replace u:=u.mono z;replace f:=f.mono z;try dsimp only at hR
 obtain⟨rfl,rfl⟩:=hR;simp only[l01,l02] at H;refine AS G G (NL (TN ?_));refine q09 G (fun ao=>?_) (fun ao=>?_)
 ·
  subst ao;rw[if_pos rfl] at h;obtain⟨⟨d2,a7⟩,bw,h⟩:=bnd h;try dsimp only at h
  refine RG (ST (q0m H G (f.cell (j:=0) G) Ta53) G (XC (A:=[.blk K (.cells #[S U.1,I U.2.1,I U.2.2.1,I U.2.2.2.1,S U.2.2.2.2.1,Value.bool U.2.2.2.2.2.1,I U.2.2.2.2.2.2.1,I U.2.2.2.2.2.2.2.1,I U.2.2.2.2.2.2.2.2] 57)]) H (Y4h @ih bw) G ⟨E,J,u⟩ (q00 G) G Kt ?_));intro d3 M w its H z hR;replace f:=f.mono z;try dsimp only at hR
  obtain⟨cq,rfl,aj,rfl⟩:=hR;simp only[l01,l02] at H;refine ST (q01 Tu89 G Ts3 Dc G) G (q0s [_,_,_,_,_,_] H G G Ku Kf Ts3 (by first|decide|(simp;done)|(simp;omega)) Kf Kf (q00 G) ?_);intro w H;refine ST (q01 Tu89 G Ts87 Dc G) G (q0J [_,_,_,_,_,_] H G G (aj.one) Ku Kf Ts87 (by first|decide|(simp;done)|(simp;omega)) (q00 G) ?_);intro w H;refine NL (IB (TN (SQ (RG (ST (q0a H G Km Ta89 Ts89 Kf) G ?_)))));refine q05 [_,_,_,_,_,_] H G G G Ku Ts89 G Kf (by simp only[l0f,l0j,(aj).one.2];rfl) (q00 G) ?_;intro w H;refine NL (TN (RT ?_));refine q1r (n':=8) Tf79 (enters Tf79 Kr G) G G G (fun a ha=>?_);obtain⟨ch,bb,h⟩:=bnd h;refine RG (ST (q0m H G (f.cell (j:=0) G) Ta53) G (FN G G Tu57 G Ts3 G G (ST (XL H Ta3) G ?_)));refine ST (q0W G G bb) G (FN G G Tu57 G Ts3 G G (q0s [_,_,_,_,_,_,_,_,_] H G G Ku Kf Ts3 (by first|decide|(simp;done)|(simp;omega)) Kf Kf (q00 G) ?_));intro w H;refine NL ?_;obtain rfl:=oI h;exact q1p (its:=[.blk K (.cells #[S a7.1,I a7.2.1,I a7.2.2.1,I a7.2.2.2.1,S a7.2.2.2.2.1,Value.bool a7.2.2.2.2.2.1,I a7.2.2.2.2.2.2.1,I a7.2.2.2.2.2.2.2.1,I ch] 57)]) G G ha ⟨_,G,H.loadAgg Km Ta89 Ts89 Kf⟩ H Kp ⟨_,G,aj,G⟩
 subst ao;rw[if_neg l00] at h;refine SQ ?_;obtain⟨⟨d4,V⟩,bx,h⟩:=bnd h;try dsimp only at h
 refine RG (ST (q0m H G (f.cell (j:=0) G) Ta53) G (XC (A:=[.blk K (.cells #[S U.1,I U.2.1,I U.2.2.1,I U.2.2.2.1,S U.2.2.2.2.1,Value.bool U.2.2.2.2.2.1,I U.2.2.2.2.2.2.1,I U.2.2.2.2.2.2.2.1,I U.2.2.2.2.2.2.2.2] 57)]) H (Y0c bx) G trivial (q00 G) G Kt ?_));intro d5 M w its H z hR;replace E:=E.mono z;replace J:=J.mono z;replace u:=u.mono z;replace f:=f.mono z;try dsimp only at hR
 obtain⟨rfl,rfl⟩:=hR;simp only[l01,l02] at H;refine AS G G (NL (TN ?_));refine q09 G (fun ap=>?_) (fun ap=>?_)
 ·
  subst ap;rw[if_pos rfl] at h;obtain⟨⟨d6,a8⟩,bz,h⟩:=bnd h;try dsimp only at h
  refine RG (ST (q0m H G (f.cell (j:=0) G) Ta53) G (XC (A:=[.blk K (.cells #[S V.1,I V.2.1,I V.2.2.1,I V.2.2.2.1,S V.2.2.2.2.1,Value.bool V.2.2.2.2.2.1,I V.2.2.2.2.2.2.1,I V.2.2.2.2.2.2.2.1,I V.2.2.2.2.2.2.2.2] 57)]) H (Y4h @ih bz) G ⟨E,J,u⟩ (q00 G) G Kt ?_));intro d7 M w its H z hR;replace f:=f.mono z;try dsimp only at hR
  obtain⟨cr,rfl,ak,rfl⟩:=hR;simp only[l01,l02] at H;refine ST (q01 Tu89 G Ts3 Dc G) G (q0s [_,_,_,_,_,_] H G G Ku Kf Ts3 (by first|decide|(simp;done)|(simp;omega)) Kf Kf (q00 G) ?_);intro w H;refine ST (q01 Tu89 G Ts87 Dc G) G (q0J [_,_,_,_,_,_] H G G (ak.one) Ku Kf Ts87 (by first|decide|(simp;done)|(simp;omega)) (q00 G) ?_);intro w H;refine NL (IB (TN (SQ (RG (ST (q0a H G Km Ta89 Ts89 Kf) G ?_)))));refine q05 [_,_,_,_,_,_] H G G G Ku Ts89 G Kf (by simp only[l0f,l0j,(ak).one.2];rfl) (q00 G) ?_;intro w H;refine NL (TN (RT ?_));refine q1r (n':=8) Tf79 (enters Tf79 Kr G) G G G (fun a ha=>?_);obtain⟨ci,bc,h⟩:=bnd h;refine RG (ST (q0m H G (f.cell (j:=0) G) Ta53) G (FN G G Tu57 G Ts3 G G (ST (XL H Ta3) G ?_)));refine ST (q0W G G bc) G (FN G G Tu57 G Ts3 G G (q0s [_,_,_,_,_,_,_,_,_] H G G Ku Kf Ts3 (by first|decide|(simp;done)|(simp;omega)) Kf Kf (q00 G) ?_));intro w H;refine NL ?_;obtain rfl:=oI h;exact q1p (its:=[.blk K (.cells #[S a8.1,I a8.2.1,I a8.2.2.1,I a8.2.2.2.1,S a8.2.2.2.2.1,Value.bool a8.2.2.2.2.2.1,I a8.2.2.2.2.2.2.1,I a8.2.2.2.2.2.2.2.1,I ci] 57)]) G G ha ⟨_,G,H.loadAgg Km Ta89 Ts89 Kf⟩ H Kp ⟨_,G,ak,G⟩
 subst ap;rw[if_neg l00] at h;refine SQ ?_;obtain⟨⟨d8,Y⟩,c0,h⟩:=bnd h;try dsimp only at h
 refine RG (ST (q0m H G (f.cell (j:=0) G) Ta53) G (XC (A:=[.blk K (.cells #[S V.1,I V.2.1,I V.2.2.1,I V.2.2.2.1,S V.2.2.2.2.1,Value.bool V.2.2.2.2.2.1,I V.2.2.2.2.2.2.1,I V.2.2.2.2.2.2.2.1,I V.2.2.2.2.2.2.2.2] 57)]) H (Y0c c0) G trivial (q00 G) G Kt ?_));intro d9 M w its H z hR;replace E:=E.mono z;replace J:=J.mono z;replace u:=u.mono z;replace f:=f.mono z;try dsimp only at hR
 obtain⟨rfl,rfl⟩:=hR;simp only[l01,l02] at H;refine AS G G (NL (TN ?_));refine q09 G (fun aq=>?_) (fun aq=>?_)
 ·
  subst aq;rw[if_pos rfl] at h;refine SQ ?_;obtain⟨⟨cj,a5⟩,c1,h⟩:=bnd h;try dsimp only at h
  refine RG (ST (q0m H G (f.cell (j:=0) G) Ta53) G (XC (A:=[.blk K (.cells #[S Y.1,I Y.2.1,I Y.2.2.1,I Y.2.2.2.1,S Y.2.2.2.2.1,Value.bool Y.2.2.2.2.2.1,I Y.2.2.2.2.2.2.1,I Y.2.2.2.2.2.2.2.1,I Y.2.2.2.2.2.2.2.2] 57)]) H (Y1f c1) G trivial (q00 G) G Kt ?_));intro da M w its H z hR;replace f:=f.mono z;try dsimp only at hR
  obtain⟨rfl,rfl⟩:=hR;simp only[l01,l02] at H;refine ST (q01 Tu89 G Ts3 Dc G) G (q0s [_,_,_,_,_,_] H G G Ku Kf Ts3 (by first|decide|(simp;done)|(simp;omega)) Kf Kf (q00 G) ?_);intro w H;refine ST (q01 Tu89 G Ts9 Dc G) G (q0s [_,_,_,_,_,_] H G G Ku Kf Ts9 (by first|decide|(simp;done)|(simp;omega)) Kf Kf (q00 G) ?_);intro w H;refine NL (TN ?_);obtain⟨⟨a9,db⟩,c2,h⟩:=bnd h;try dsimp only at h
  refine RG (ST (q0m H G (f.cell (j:=0) G) Ta53) G (XC (A:=[.blk K (.cells #[S a5.1,I a5.2.1,I a5.2.2.1,I a5.2.2.2.1,S a5.2.2.2.2.1,Value.bool a5.2.2.2.2.2.1,I a5.2.2.2.2.2.2.1,I a5.2.2.2.2.2.2.2.1,I a5.2.2.2.2.2.2.2.2] 57), .blk ah (.cells #[I 5,Value.slice none 0 0,S cj,I 0,S [],I 0] 89)]) H (Y36 c2 :) G (q0U) (q00 G) G Kt ?_));intro dc M w its H z hR;replace f:=f.mono z;try dsimp only at hR
  obtain⟨rfl,rfl⟩:=hR;simp only[l01,l02] at H;refine NL (IB (TN (SQ (RG (ST (q0a H G Km Ta89 Ts89 Kf) G ?_)))));refine q05 [_,_,_,_,_,_] H G G G Ku Ts89 G Kf Kf (q00 G) ?_;intro w H;refine NL (TN (RT ?_));refine q1r (n':=8) Tf79 (enters Tf79 Kr G) G G G (fun a ha=>?_);obtain⟨ck,bd,h⟩:=bnd h;refine RG (ST (q0m H G (f.cell (j:=0) G) Ta53) G (FN G G Tu57 G Ts3 G G (ST (XL H Ta3) G ?_)));refine ST (q0W G G bd) G (FN G G Tu57 G Ts3 G G (q0s [_,_,_,_,_,_,_,_,_] H G G Ku Kf Ts3 (by first|decide|(simp;done)|(simp;omega)) Kf Kf (q00 G) ?_));intro w H;refine NL ?_;obtain rfl:=oI h;exact q1p (its:=[.blk K (.cells #[S a9.1,I a9.2.1,I a9.2.2.1,I a9.2.2.2.1,S a9.2.2.2.2.1,Value.bool a9.2.2.2.2.2.1,I a9.2.2.2.2.2.2.1,I a9.2.2.2.2.2.2.2.1,I ck] 57)]) G G ha ⟨_,G,H.loadAgg Km Ta89 Ts89 Kf⟩ H Kp ⟨_,G,q0U,G⟩
 subst aq;rw[if_neg l00] at h;refine SQ ?_;obtain⟨⟨dd,Z⟩,c3,h⟩:=bnd h;try dsimp only at h
 refine RG (ST (q0m H G (f.cell (j:=0) G) Ta53) G (XC (A:=[.blk K (.cells #[S Y.1,I Y.2.1,I Y.2.2.1,I Y.2.2.2.1,S Y.2.2.2.2.1,Value.bool Y.2.2.2.2.2.1,I Y.2.2.2.2.2.2.1,I Y.2.2.2.2.2.2.2.1,I Y.2.2.2.2.2.2.2.2] 57)]) H (Y0c c3) G trivial (q00 G) G Kt ?_));intro de M w its H z hR;replace E:=E.mono z;replace J:=J.mono z;replace u:=u.mono z;replace f:=f.mono z;try dsimp only at hR
 obtain⟨rfl,rfl⟩:=hR;simp only[l01,l02] at H;refine AS G G (NL (TN ?_));refine q09 G (fun ar=>?_) (fun ar=>?_)
 ·
  subst ar;rw[if_pos rfl] at h;refine SQ (RG (ST (q01 Tu89 G Ts3 Dc G) G (q0s [_,_,_,_,_,_] H G G Ku Kf Ts3 (by first|decide|(simp;done)|(simp;omega)) Kf Kf (q00 G) ?_)));intro w H;refine NL (TN ?_);obtain⟨⟨aa,df⟩,c4,h⟩:=bnd h;try dsimp only at h
  refine RG (ST (q0m H G (f.cell (j:=0) G) Ta53) G (XC (A:=[.blk K (.cells #[S Z.1,I Z.2.1,I Z.2.2.1,I Z.2.2.2.1,S Z.2.2.2.2.1,Value.bool Z.2.2.2.2.2.1,I Z.2.2.2.2.2.2.1,I Z.2.2.2.2.2.2.2.1,I Z.2.2.2.2.2.2.2.2] 57), .blk ah (.cells #[I 6,Value.slice none 0 0,S [],I 0,S [],I 0] 89)]) H (Y36 c4 :) G (q0U) (q00 G) G Kt ?_));intro dg M w its H z hR;replace f:=f.mono z;try dsimp only at hR
  obtain⟨rfl,rfl⟩:=hR;simp only[l01,l02] at H;refine NL (IB (TN (SQ (RG (ST (q0a H G Km Ta89 Ts89 Kf) G ?_)))));refine q05 [_,_,_,_,_,_] H G G G Ku Ts89 G Kf Kf (q00 G) ?_;intro w H;refine NL (TN (RT ?_));refine q1r (n':=8) Tf79 (enters Tf79 Kr G) G G G (fun a ha=>?_);obtain⟨cl,be,h⟩:=bnd h;refine RG (ST (q0m H G (f.cell (j:=0) G) Ta53) G (FN G G Tu57 G Ts3 G G (ST (XL H Ta3) G ?_)));refine ST (q0W G G be) G (FN G G Tu57 G Ts3 G G (q0s [_,_,_,_,_,_,_,_,_] H G G Ku Kf Ts3 (by first|decide|(simp;done)|(simp;omega)) Kf Kf (q00 G) ?_));intro w H;refine NL ?_;obtain rfl:=oI h;exact q1p (its:=[.blk K (.cells #[S aa.1,I aa.2.1,I aa.2.2.1,I aa.2.2.2.1,S aa.2.2.2.2.1,Value.bool aa.2.2.2.2.2.1,I aa.2.2.2.2.2.2.1,I aa.2.2.2.2.2.2.2.1,I cl] 57)]) G G ha ⟨_,G,H.loadAgg Km Ta89 Ts89 Kf⟩ H Kp ⟨_,G,q0U,G⟩
 subst ar;rw[if_neg l00] at h;refine SQ ?_;obtain⟨⟨dh,a0⟩,c5,h⟩:=bnd h;try dsimp only at h
 refine RG (ST (q0m H G (f.cell (j:=0) G) Ta53) G (XC (A:=[.blk K (.cells #[S Z.1,I Z.2.1,I Z.2.2.1,I Z.2.2.2.1,S Z.2.2.2.2.1,Value.bool Z.2.2.2.2.2.1,I Z.2.2.2.2.2.2.1,I Z.2.2.2.2.2.2.2.1,I Z.2.2.2.2.2.2.2.2] 57)]) H (Y0c c5) G trivial (q00 G) G Kt ?_));intro di M w its H z hR;replace E:=E.mono z;replace J:=J.mono z;replace u:=u.mono z;replace f:=f.mono z;try dsimp only at hR
 obtain⟨rfl,rfl⟩:=hR;simp only[l01,l02] at H;refine AS G G (NL (TN ?_));refine q09 G (fun au=>?_) (fun au=>?_)
 ·
  subst au;rw[if_pos rfl] at h;refine SQ (RG (ST (q01 Tu89 G Ts3 Dc G) G (q0s [_,_,_,_,_,_] H G G Ku Kf Ts3 (by first|decide|(simp;done)|(simp;omega)) Kf Kf (q00 G) ?_)));intro w H;refine NL (TN ?_);obtain⟨⟨ab,dj⟩,c6,h⟩:=bnd h;try dsimp only at h
  refine RG (ST (q0m H G (f.cell (j:=0) G) Ta53) G (XC (A:=[.blk K (.cells #[S a0.1,I a0.2.1,I a0.2.2.1,I a0.2.2.2.1,S a0.2.2.2.2.1,Value.bool a0.2.2.2.2.2.1,I a0.2.2.2.2.2.2.1,I a0.2.2.2.2.2.2.2.1,I a0.2.2.2.2.2.2.2.2] 57), .blk ah (.cells #[I 7,Value.slice none 0 0,S [],I 0,S [],I 0] 89)]) H (Y36 c6 :) G (q0U) (q00 G) G Kt ?_));intro dk M w its H z hR;replace f:=f.mono z;try dsimp only at hR
  obtain⟨rfl,rfl⟩:=hR;simp only[l01,l02] at H;refine NL (IB (TN (SQ (RG (ST (q0a H G Km Ta89 Ts89 Kf) G ?_)))));refine q05 [_,_,_,_,_,_] H G G G Ku Ts89 G Kf Kf (q00 G) ?_;intro w H;refine NL (TN (RT ?_));refine q1r (n':=8) Tf79 (enters Tf79 Kr G) G G G (fun a ha=>?_);obtain⟨cm,bf,h⟩:=bnd h;refine RG (ST (q0m H G (f.cell (j:=0) G) Ta53) G (FN G G Tu57 G Ts3 G G (ST (XL H Ta3) G ?_)));refine ST (q0W G G bf) G (FN G G Tu57 G Ts3 G G (q0s [_,_,_,_,_,_,_,_,_] H G G Ku Kf Ts3 (by first|decide|(simp;done)|(simp;omega)) Kf Kf (q00 G) ?_));intro w H;refine NL ?_;obtain rfl:=oI h;exact q1p (its:=[.blk K (.cells #[S ab.1,I ab.2.1,I ab.2.2.1,I ab.2.2.2.1,S ab.2.2.2.2.1,Value.bool ab.2.2.2.2.2.1,I ab.2.2.2.2.2.2.1,I ab.2.2.2.2.2.2.2.1,I cm] 57)]) G G ha ⟨_,G,H.loadAgg Km Ta89 Ts89 Kf⟩ H Kp ⟨_,G,q0U,G⟩
 subst au;rw[if_neg l00] at h;refine SQ ?_;obtain⟨⟨dl,a1⟩,c7,h⟩:=bnd h;try dsimp only at h
 refine RG (ST (q0m H G (f.cell (j:=0) G) Ta53) G (XC (A:=[.blk K (.cells #[S a0.1,I a0.2.1,I a0.2.2.1,I a0.2.2.2.1,S a0.2.2.2.2.1,Value.bool a0.2.2.2.2.2.1,I a0.2.2.2.2.2.2.1,I a0.2.2.2.2.2.2.2.1,I a0.2.2.2.2.2.2.2.2] 57)]) H (Y0c c7) G trivial (q00 G) G Kt ?_));intro dm M w its H z hR;replace E:=E.mono z;replace J:=J.mono z;replace u:=u.mono z;replace f:=f.mono z;try dsimp only at hR
 obtain⟨rfl,rfl⟩:=hR;simp only[l01,l02] at H;refine AS G G (NL (TN ?_));refine q09 G (fun av=>?_) (fun av=>?_)
 ·
  subst av;rw[if_pos rfl] at h;obtain⟨⟨dn,ac⟩,c8,h⟩:=bnd h;try dsimp only at h
  refine RG (ST (q0m H G (f.cell (j:=0) G) Ta53) G (XC (A:=[.blk K (.cells #[S a1.1,I a1.2.1,I a1.2.2.1,I a1.2.2.2.1,S a1.2.2.2.2.1,Value.bool a1.2.2.2.2.2.1,I a1.2.2.2.2.2.2.1,I a1.2.2.2.2.2.2.2.1,I a1.2.2.2.2.2.2.2.2] 57)]) H (Y3K c8) G ⟨E,J,u⟩ (q00 G) G Kt ?_));intro dp M w its H z hR;replace f:=f.mono z;try dsimp only at hR
  obtain⟨rfl,rfl⟩:=hR;simp only[l01,l02] at H;refine ST (q01 Tu89 G Ts3 Dc G) G (q0s [_,_,_,_,_,_] H G G Ku Kf Ts3 (by first|decide|(simp;done)|(simp;omega)) Kf Kf (q00 G) ?_);intro w H;refine ST (q01 Tu89 G Ts3 Dc G) G (q0s [_,_,_,_,_,_] H G G Ku Kf Ts3 (by first|decide|(simp;done)|(simp;omega)) Kf Kf (q00 G) ?_);intro w H;refine NL (IB (TN (SQ (RG (ST (q0a H G Km Ta89 Ts89 Kf) G ?_)))));refine q05 [_,_,_,_,_,_] H G G G Ku Ts89 G Kf Kf (q00 G) ?_;intro w H;refine NL (TN (RT ?_));refine q1r (n':=8) Tf79 (enters Tf79 Kr G) G G G (fun a ha=>?_);obtain⟨cn,bg,h⟩:=bnd h;refine RG (ST (q0m H G (f.cell (j:=0) G) Ta53) G (FN G G Tu57 G Ts3 G G (ST (XL H Ta3) G ?_)));refine ST (q0W G G bg) G (FN G G Tu57 G Ts3 G G (q0s [_,_,_,_,_,_,_,_,_] H G G Ku Kf Ts3 (by first|decide|(simp;done)|(simp;omega)) Kf Kf (q00 G) ?_));intro w H;refine NL ?_;obtain rfl:=oI h;exact q1p (its:=[.blk K (.cells #[S ac.1,I ac.2.1,I ac.2.2.1,I ac.2.2.2.1,S ac.2.2.2.2.1,Value.bool ac.2.2.2.2.2.1,I ac.2.2.2.2.2.2.1,I ac.2.2.2.2.2.2.2.1,I cn] 57)]) G G ha ⟨_,G,H.loadAgg Km Ta89 Ts89 Kf⟩ H Kp ⟨_,G,q0U,G⟩
 subst av;rw[if_neg l00] at h;refine SQ ?_;obtain⟨⟨dq,a3⟩,c9,h⟩:=bnd h;try dsimp only at h
 refine RG (ST (q0m H G (f.cell (j:=0) G) Ta53) G (XC (A:=[.blk K (.cells #[S a1.1,I a1.2.1,I a1.2.2.1,I a1.2.2.2.1,S a1.2.2.2.2.1,Value.bool a1.2.2.2.2.2.1,I a1.2.2.2.2.2.2.1,I a1.2.2.2.2.2.2.2.1,I a1.2.2.2.2.2.2.2.2] 57)]) H (Y0c c9) G trivial (q00 G) G Kt ?_));intro ds M w its H z hR;replace f:=f.mono z;try dsimp only at hR
 obtain⟨rfl,rfl⟩:=hR;simp only[l01,l02] at H;refine AS G G (NL (TN ?_));refine q09 G (fun aw=>?_) (fun aw=>?_)
 ·
  subst aw;rw[if_pos rfl] at h;obtain⟨⟨dt,ad⟩,ca,h⟩:=bnd h;try dsimp only at h
  refine RG (ST (q0m H G (f.cell (j:=0) G) Ta53) G (XC (A:=[.blk K (.cells #[S a3.1,I a3.2.1,I a3.2.2.1,I a3.2.2.2.1,S a3.2.2.2.2.1,Value.bool a3.2.2.2.2.2.1,I a3.2.2.2.2.2.2.1,I a3.2.2.2.2.2.2.2.1,I a3.2.2.2.2.2.2.2.2] 57)]) H (Y1f ca) G trivial (q00 G) G Kt ?_));intro du M w its H z hR;replace f:=f.mono z;try dsimp only at hR
  obtain⟨rfl,rfl⟩:=hR;simp only[l01,l02] at H;refine ST (q01 Tu89 G Ts3 Dc G) G (q0s [_,_,_,_,_,_] H G G Ku Kf Ts3 (by first|decide|(simp;done)|(simp;omega)) Kf Kf (q00 G) ?_);intro w H;refine ST (q01 Tu89 G Ts9 Dc G) G (q0s [_,_,_,_,_,_] H G G Ku Kf Ts9 (by first|decide|(simp;done)|(simp;omega)) Kf Kf (q00 G) ?_);intro w H;refine NL (IB (TN (SQ (RG (ST (q0a H G Km Ta89 Ts89 Kf) G ?_)))));refine q05 [_,_,_,_,_,_] H G G G Ku Ts89 G Kf Kf (q00 G) ?_;intro w H;refine NL (TN (RT ?_));refine q1r (n':=8) Tf79 (enters Tf79 Kr G) G G G (fun a ha=>?_);obtain⟨co,bh,h⟩:=bnd h;refine RG (ST (q0m H G (f.cell (j:=0) G) Ta53) G (FN G G Tu57 G Ts3 G G (ST (XL H Ta3) G ?_)));refine ST (q0W G G bh) G (FN G G Tu57 G Ts3 G G (q0s [_,_,_,_,_,_,_,_,_] H G G Ku Kf Ts3 (by first|decide|(simp;done)|(simp;omega)) Kf Kf (q00 G) ?_));intro w H;refine NL ?_;obtain rfl:=oI h;exact q1p (its:=[.blk K (.cells #[S ad.1,I ad.2.1,I ad.2.2.1,I ad.2.2.2.1,S ad.2.2.2.2.1,Value.bool ad.2.2.2.2.2.1,I ad.2.2.2.2.2.2.1,I ad.2.2.2.2.2.2.2.1,I co] 57)]) G G ha ⟨_,G,H.loadAgg Km Ta89 Ts89 Kf⟩ H Kp ⟨_,G,q0U,G⟩
 subst aw;rw[if_neg l00] at h;refine RG (ST (q0m H G (f.cell (j:=0) G) Ta53) G (FN G G Tu57 G Ts4 G G (q0s [_,_,_,_,_,_,_,_,_] H G G Ku Kf Ts4 (by first|decide|(simp;done)|(simp;omega)) Kf Kf (q00 G) ?_)));intro w H;refine NL (IB (TN (SQ (RG (ST (q0a H G Km Ta89 Ts89 Kf) G ?_)))));refine q05 [_,_,_,_,_,_] H G G G Ku Ts89 G Kf Kf (q00 G) ?_;intro w H;refine NL (TN (RT ?_));refine q1r (n':=8) Tf79 (enters Tf79 Kr G) G G G (fun a ha=>?_);obtain⟨cp,bi,h⟩:=bnd h;refine RG (ST (q0m H G (f.cell (j:=0) G) Ta53) G (FN G G Tu57 G Ts3 G G (ST (XL H Ta3) G ?_)));refine ST (q0W G G bi) G (FN G G Tu57 G Ts3 G G (q0s [_,_,_,_,_,_,_,_,_] H G G Ku Kf Ts3 (by first|decide|(simp;done)|(simp;omega)) Kf Kf (q00 G) ?_));intro w H;refine NL ?_;obtain rfl:=oI h;exact q1p (its:=[.blk K (.cells #[S a3.1,I a3.2.1,I a3.2.2.1,I a3.2.2.2.1,S a3.2.2.2.2.1,Value.bool true,I a3.2.2.2.2.2.2.1,I a3.2.2.2.2.2.2.2.1,I cp] 57)]) G G ha ⟨_,G,H.loadAgg Km Ta89 Ts89 Kf⟩ H Kp ⟨_,G,q0U,G⟩
theorem Y44 : ∀ (m : Nat) {f : Z00} {u : Nat} {r : Z0I}, Y13 m f = some r -> CtX Tryz.prog 49 [ptr u 0] [.blk u (.cells #[S f.1, I f.2.1, I f.2.2.1, I f.2.2.2.1, S f.2.2.2.2.1, Value.bool f.2.2.2.2.2.1, I f.2.2.2.2.2.2.1, I f.2.2.2.2.2.2.2.1, I f.2.2.2.2.2.2.2.2] 57)] (fun M => GlF (fun w => ∃ tp p, w.var? Tryz.prog "strconv.ErrRange" = some #[.iface tp p]) M /\ GlF (fun w => ∃ tp p, w.var? Tryz.prog "strconv.ErrSyntax" = some #[.iface tp p]) M /\ GlF (fun w => Lib.TabIs Tryz.prog w "internal/strconv.uint64pow10" .u64 Lib.pow10Tab) M) (fun v M its => ∃ z, v = Value.agg #[I r.1.1, z, S r.1.2.2.1, I r.1.2.2.2.1, S r.1.2.2.2.2.1, I r.1.2.2.2.2.2] /\ SlR xrl89 M z r.1.2.1 /\ its = [.blk u (.cells #[S r.2.1, I r.2.2.1, I r.2.2.2.1, I r.2.2.2.2.1, S r.2.2.2.2.2.1, Value.bool r.2.2.2.2.2.2.1, I r.2.2.2.2.2.2.2.1, I r.2.2.2.2.2.2.2.2.1, I r.2.2.2.2.2.2.2.2.2] 57)])
 | 0,_,_,_,h=>by rw[Y13] at h;cases h
 | m+1,_,_,_,h=>Y5c (fun h=>Y44 m h) (by rw[Y13] at h;exact h)
theorem Y5B {f : Z00}{u : Nat}{r : Z0I}(h : Y3P f = some r): CtX Tryz.prog 49 [ptr u 0] [.blk u (.cells #[S f.1, I f.2.1, I f.2.2.1, I f.2.2.2.1, S f.2.2.2.2.1, Value.bool f.2.2.2.2.2.1, I f.2.2.2.2.2.2.1, I f.2.2.2.2.2.2.2.1, I f.2.2.2.2.2.2.2.2] 57)] (fun M => GlF (fun w => ∃ tp p, w.var? Tryz.prog "strconv.ErrRange" = some #[.iface tp p]) M /\ GlF (fun w => ∃ tp p, w.var? Tryz.prog "strconv.ErrSyntax" = some #[.iface tp p]) M /\ GlF (fun w => Lib.TabIs Tryz.prog w "internal/strconv.uint64pow10" .u64 Lib.pow10Tab) M) (fun v M its => ∃ z, v = Value.agg #[I r.1.1, z, S r.1.2.2.1, I r.1.2.2.2.1, S r.1.2.2.2.2.1, I r.1.2.2.2.2.2] /\ SlR xrl89 M z r.1.2.1 /\ its = [.blk u (.cells #[S r.2.1, I r.2.2.1, I r.2.2.2.1, I r.2.2.2.2.1, S r.2.2.2.2.2.1, Value.bool r.2.2.2.2.2.2.1, I r.2.2.2.2.2.2.2.1, I r.2.2.2.2.2.2.2.2.1, I r.2.2.2.2.2.2.2.2.2] 57)]) := Y44 FU h
theorem Y6m  {r:List Ls} (h:Y4n=some r):Ct Tryz.prog 84 [] (fun M=>True) (fun v M=>v=Value.agg (List.map encS r).toArray):=by
 refine Ct.of Tryz.func84 (enters Tryz.func84 Kr G) G G G ?_;intro J M0 H hp;unfold Y4n at h;refine SQ (RG (q0f (List.map encS (List.replicate 7 []:List Ls)) H Tryz.zeroValue144 Kr (q00 G) G ?_));intro E w H;refine NL (TN (SQ ?_));obtain⟨K,f,h⟩:=bnd h;obtain⟨l2,u,h⟩:=bnd h;refine RG (ST (Ex.buildArr [S [107,101,101,112],S [102,105,108,101],S [100,105,115,99,97,114,100],S [114,101,100,105,114,101,99,116],S [114,101,106,101,99,116],S [102,108,97,103],S [114,101,112,108,121]] Tryz.underlying144 Tryz.zeroValue144 Ts9 G Kr) G (WR.storeA (l2:=([[107,101,101,112],[102,105,108,101],[100,105,115,99,97,114,100],[114,101,100,105,114,101,99,116],[114,101,106,101,99,116],[102,108,97,103],[114,101,112,108,121]]:List Ls)) H G G (fun _=>G) (fun _=>by repeat first|exact .head|apply Upd.tail) f u Tryz.sizeOf144 (q00 G) ?_));intro w H;refine NL (TN (RT ?_));obtain⟨N,z,h⟩:=bnd h;obtain rfl:=oI h;exact q08 G ⟨_,G,H.loadAggA Km Tryz.isAgg144 Tryz.sizeOf144 z⟩ H.ext G
theorem Y5o {J:Int}{r:Bool}(h:Y3q J=some r):Ct Tryz.prog 85 [I J] (fun M=>True) (fun v M=>v=Value.bool r):=by
 refine Ct.of Tryz.func85 (enters Tryz.func85 Kr G) G G G ?_;intro N M0 H hp;unfold Y3q at h;refine SQ (RG (AS G G (NL (TN (SQ ?_)))));obtain⟨O,f,h⟩:=bnd h;refine q07 (fun e w =>∃(K:Bool) (M:Mem),e=[(2,Value.bool K)]/\St N M0 M [] w/\some K=some O) [] ?_ ?_ (trivial)
 ·
  by_cases u:J=(2:Int)
  ·
   rw[if_pos u] at f;refine RG (MV G G (DT u (q0j G G) G (MV G G (GT G G G (GT G G G (PT G G G (MV G G (GT G G G (GT G G G (PT G G G (MV G G (GT G G G (GT G G G (PT G G G (AS G G (NL ?_))))))))))))))));exact MN ⟨_,_,G,H,f⟩
  rw[if_neg u] at f;refine RG (MV G G (DF u (q0j G G) G (MV G G (SG (q02 G) G G G ?_))));by_cases z:J=(4:Int)
  ·
   rw[if_pos z] at f;refine DU z (q0j G G) G G G (PF G G G (MV G G (GT G G G (GT G G G (PT G G G (MV G G (GT G G G (GT G G G (PT G G G (AS G G (NL ?_)))))))))));exact MN ⟨_,_,G,H,f⟩
  rw[if_neg z] at f;refine DG z (q0j G G) G G G (PF G G G (MV G G (SG (q02 G) G G G ?_)));by_cases E:J=(5:Int)
  ·
   rw[if_pos E] at f;refine DU E (q0j G G) G G G (PF G G G (MV G G (GT G G G (GT G G G (PT G G G (AS G G (NL ?_)))))));exact MN ⟨_,_,G,H,f⟩
  rw[if_neg E] at f;refine DG E (q0j G G) G G G (PF G G G (MV G G (SG (q02 G) G G G (SG (q0j G G) G G G (PF G G G (AS G G (NL ?_)))))));exact MN ⟨_,_,G,H,f⟩
 rintro e w ⟨K,M,rfl,H,U⟩;obtain rfl:=oI U;refine TN (RT ?_);obtain rfl:=oI h;exact q08 G G H.ext G
theorem Y5d {J : Z00}{O : Nat}{r : Z0N}(h : Y2j J = some r): CtX Tryz.prog 53 [ptr O 0] [.blk O (.cells #[S J.1, I J.2.1, I J.2.2.1, I J.2.2.2.1, S J.2.2.2.2.1, Value.bool J.2.2.2.2.2.1, I J.2.2.2.2.2.2.1, I J.2.2.2.2.2.2.2.1, I J.2.2.2.2.2.2.2.2] 57)] (fun M => GlF (fun w => ∃ tp p, w.var? Tryz.prog "strconv.ErrRange" = some #[.iface tp p]) M /\ GlF (fun w => ∃ tp p, w.var? Tryz.prog "strconv.ErrSyntax" = some #[.iface tp p]) M /\ GlF (fun w => Lib.TabIs Tryz.prog w "internal/strconv.uint64pow10" .u64 Lib.pow10Tab) M) (fun v M its => ∃ c3 c4 c5, v = Value.agg #[I r.1.1, I r.1.2.1, c3, S r.1.2.2.2.1, I r.1.2.2.2.2.1, S r.1.2.2.2.2.2.1, I r.1.2.2.2.2.2.2.1, c4, c5, I r.1.2.2.2.2.2.2.2.2.2.1, S r.1.2.2.2.2.2.2.2.2.2.2.1, S r.1.2.2.2.2.2.2.2.2.2.2.2.1, I r.1.2.2.2.2.2.2.2.2.2.2.2.2] /\ SlR xrl89 M c3 r.1.2.2.1 /\ SlR xrl91 M c4 r.1.2.2.2.2.2.2.2.1 /\ SlR xrl91 M c5 r.1.2.2.2.2.2.2.2.2.1 /\ its = [.blk O (.cells #[S r.2.1, I r.2.2.1, I r.2.2.2.1, I r.2.2.2.2.1, S r.2.2.2.2.2.1, Value.bool r.2.2.2.2.2.2.1, I r.2.2.2.2.2.2.2.1, I r.2.2.2.2.2.2.2.2.1, I r.2.2.2.2.2.2.2.2.2] 57)]) := by
 refine q0T Tryz.func53 (enters Tryz.func53 Kr G) G G G ?_;intro w0 M0 H hp;obtain⟨u,z,f⟩:=hp;unfold Y2j at h;refine SQ (RG (q0f [_,_,_,_,_,_,_,_,_,_,_,_,_] H Tz91 G (q00 G) G ?_));intro a8 w H;refine NL (TN (SQ (RG (ST (q0A [I 2,I 0,Value.slice none 0 0,S [],I 0,S [],I 0,Value.slice none 0 0,Value.slice none 0 0,I 0,S [],S [],I 0] Tu91 Tz91 (xplaces91 Tu91) G Kr) G (q0f [_,_,_,_,_,_,_,_,_,_,_,_,_] H Tz91 G (q00 G) G ?_)))));intro a9 w H;refine q05 [_,_,_,_,_,_,_,_,_,_,_,_,_] H G G G Ku Ts91 G Kf Kf (q00 G) ?_;intro w H;refine NL (TN (SQ (SQ ?_)));obtain⟨n1,e9,h⟩:=bnd h;refine RG (q03 H (Y6m e9) G trivial (q00 G) G ?_);intro v7 M w H E hR;replace u:=u.mono E;replace z:=z.mono E;replace f:=f.mono E;obtain rfl:=hR;refine MV G G (NL (TN ?_));obtain⟨o3,e4,h⟩:=bnd h
 refine q07 (fun e w => ∃ (s5 : Ls) (n6 : Int) (n7 : Int) (n8 : Int) (s9 : Ls) (c6 : Bool) (bb : Int) (bc : Int) (bd : Int) (c7 : Int) (c8 : Int) (c9 : List BT88) (ca : Value) (cb : Ls) (cc : Int) (cd : Ls) (ce : Int) (cf : List BT90) (cg : Value) (ch : List BT90) (ci : Value) (cj : Int) (ck : Ls) (cl : Ls) (cm : Int) (cn : Int) (co : Int) (cp : List BT88) (cq : Value) (cr : Ls) (cs : Int) (ct : Ls) (cu : Int) (cv : List BT90) (cw : Value) (cx : List BT90) (cy : Value) (cz : Int) (d0 : Ls) (d1 : Ls) (d2 : Int) (M : Mem), e = [(0, ptr O 0), (2, ptr a8 0), (3, ptr a9 0)] /\ StX (feet [.blk O (.cells #[S J.1, I J.2.1, I J.2.2.1, I J.2.2.2.1, S J.2.2.2.2.1, Value.bool J.2.2.2.2.2.1, I J.2.2.2.2.2.2.1, I J.2.2.2.2.2.2.2.1, I J.2.2.2.2.2.2.2.2] 57)]) w0 M0 M [.blk O (.cells #[S s5, I n6, I n7, I n8, S s9, Value.bool c6, I bb, I bc, I bd] 57), .blk a8 (.cells #[I c7, I c8, ca, S cb, I cc, S cd, I ce, cg, ci, I cj, S ck, S cl, I cm] 91), .blk a9 (.cells #[I cn, I co, cq, S cr, I cs, S ct, I cu, cw, cy, I cz, S d0, S d1, I d2] 91)] w /\ GlF (fun w => ∃ tp p, w.var? Tryz.prog "strconv.ErrRange" = some #[.iface tp p]) M /\ GlF (fun w => ∃ tp p, w.var? Tryz.prog "strconv.ErrSyntax" = some #[.iface tp p]) M /\ GlF (fun w => Lib.TabIs Tryz.prog w "internal/strconv.uint64pow10" .u64 Lib.pow10Tab) M /\ SlR xrl89 M ca c9 /\ SlR xrl91 M cg cf /\ SlR xrl91 M ci ch /\ SlR xrl89 M cq cp /\ SlR xrl91 M cw cv /\ SlR xrl91 M cy cx /\ some (.inl (s5, n6, n7, n8, s9, c6, bb, bc, bd, c7, c8, c9, cb, cc, cd, ce, cf, ch, cj, ck, cl, cm, cn, co, cp, cr, cs, ct, cu, cv, cx, cz, d0, d1, d2)) = some o3) [] ?_ ?_ (trivial)
 ·
  refine BL ?_
  refine q0p (fun m e w => ∃ (be : Ls) (bf : Int) (bg : Int) (bh : Int) (bi : Ls) (bj : Bool) (bm : Int) (bn : Int) (bo : Int) (bp : Int) (bq : Int) (br : List BT88) (ap : Value) (bs : Ls) (bt : Int) (bu : Ls) (bv : Int) (bw : List BT90) (aq : Value) (bx : List BT90) (ar : Value) (bz : Int) (c0 : Ls) (c1 : Ls) (c2 : Int) (d3 : Int) (d4 : Int) (d5 : List BT88) (d6 : Value) (d7 : Ls) (d8 : Int) (d9 : Ls) (da : Int) (db : List BT90) (dc : Value) (dd : List BT90) (de : Value) (df : Int) (dg : Ls) (dh : Ls) (di : Int) (aa : Int) (M : Mem), e = [(0, ptr O 0), (2, ptr a8 0), (3, ptr a9 0), (7, Value.agg (List.map encS n1).toArray), (8, I aa)] /\ StX (feet [.blk O (.cells #[S J.1, I J.2.1, I J.2.2.1, I J.2.2.2.1, S J.2.2.2.2.1, Value.bool J.2.2.2.2.2.1, I J.2.2.2.2.2.2.1, I J.2.2.2.2.2.2.2.1, I J.2.2.2.2.2.2.2.2] 57)]) w0 M0 M [.blk O (.cells #[S be, I bf, I bg, I bh, S bi, Value.bool bj, I bm, I bn, I bo] 57), .blk a8 (.cells #[I bp, I bq, ap, S bs, I bt, S bu, I bv, aq, ar, I bz, S c0, S c1, I c2] 91), .blk a9 (.cells #[I d3, I d4, d6, S d7, I d8, S d9, I da, dc, de, I df, S dg, S dh, I di] 91)] w /\ GlF (fun w => ∃ tp p, w.var? Tryz.prog "strconv.ErrRange" = some #[.iface tp p]) M /\ GlF (fun w => ∃ tp p, w.var? Tryz.prog "strconv.ErrSyntax" = some #[.iface tp p]) M /\ GlF (fun w => Lib.TabIs Tryz.prog w "internal/strconv.uint64pow10" .u64 Lib.pow10Tab) M /\ SlR xrl89 M ap br /\ SlR xrl91 M aq bw /\ SlR xrl91 M ar bx /\ SlR xrl89 M d6 d5 /\ SlR xrl91 M dc db /\ SlR xrl91 M de dd /\ Y0p n1 m be bf bg bh bi bj bm bn bo bp bq br bs bt bu bv bw bx bz c0 c1 c2 d3 d4 d5 d7 d8 d9 da db dd df dg dh di aa = some o3) FU [(0, _), (2, _), (3, _), (7, _), (8, _)] ⟨rfl, rfl, rfl, rfl, rfl, trivial⟩ ⟨_, _, _, _, _, _, _, _, _, _, _, _, _, _, _, _, _, _, _, _, _, _, _, _, _, _, _, _, _, _, _, _, _, _, _, _, _, _, _, _, _, _, _, rfl, (H.pick (L' := [.blk O (.cells #[S J.1, I J.2.1, I J.2.2.1, I J.2.2.2.1, S J.2.2.2.2.1, Value.bool J.2.2.2.2.2.1, I J.2.2.2.2.2.2.1, I J.2.2.2.2.2.2.2.1, I J.2.2.2.2.2.2.2.2] 57), .blk a8 (.cells #[I 0, I 0, Value.slice none 0 0, S [], I 0, S [], I 0, Value.slice none 0 0, Value.slice none 0 0, I 0, S [], S [], I 0] 91), .blk a9 (.cells #[I 2, I 0, Value.slice none 0 0, S [], I 0, S [], I 0, Value.slice none 0 0, Value.slice none 0 0, I 0, S [], S [], I 0] 91)]) Kp), u, z, f, q0U, q0U, q0U, q0U, q0U, q0U, e4⟩ ?_
  rintro au e w ⟨be,bf,bg,bh,bi,bj,bm,bn,bo,bp,bq,br,ap,bs,bt,bu,bv,bw,aq,bx,ar,bz,c0,c1,c2,d3,d4,d5,d6,d7,d8,d9,da,db,dc,dd,de,df,dg,dh,di,aa,M,rfl,H,u,z,f,U,V,Y,Z,a0,a1,e4⟩;rcases au with _|au
  · rw[Y0p] at e4;cases e4
  rw[Y0p] at e4;refine SQ (RG (ST (q0n G G) G (NL (TN (SQ ?_)))));refine CB (p:=aa<(7:Int)) G (fun ab=>?_) fun ab=>?_
  ·
   rw[if_pos ab] at e4;refine SK (TN (SQ (BL (SQ ?_))));obtain⟨eb,dj,e4⟩:=bnd e4;refine RG (MV G G (ST (Ex.idxAggA (l:=n1) Tryz.underlying144 Ts9 Ta9 G G dj) G (AS G G (AS G G (NL (TN (SQ (SQ ?_))))))));obtain⟨⟨dk,K⟩,dx,e4⟩:=bnd e4;try dsimp only at e4
   refine RG (MV G G (MV G G (XC (A:=[.blk O (.cells #[S be,I bf,I bg,I bh,S bi,Value.bool bj,I bm,I bn,I bo] 57)]) H (Y0c dx) G trivial (q00 G) G Kt ?_)));intro el M w its H E hR;replace u:=u.mono E;replace z:=z.mono E;replace f:=f.mono E;replace U:=U.mono E;replace V:=V.mono E;replace Y:=Y.mono E;replace Z:=Z.mono E;replace a0:=a0.mono E;replace a1:=a1.mono E;try dsimp only at hR
   obtain⟨rfl,rfl⟩:=hR;simp only[l01,l02] at H;refine ST (q0y G) G (NL (TN ?_));refine q09 G (fun a3=>?_) (fun a3=>?_)
   ·
    replace a3:dk=false:=by simpa using a3
    subst a3;rw[if_neg l00] at e4;refine q0o (q04 (q0g (TN ?_)));obtain⟨ec,dl,e4⟩:=bnd e4;refine RG (ST (q0b G G dl) G (MV G G (NL ?_)));exact AG au ⟨_,_,_,_,_,_,_,_,_,_,_,_,_,_,_,_,_,_,_,_,_,_,_,_,_,_,_,_,_,_,_,_,_,_,_,_,_,_,_,_,_,_,_,G,H,u,z,f,U,V,Y,Z,a0,a1,e4⟩ (l04 _)
   replace a3:dk=true:=by simpa using a3
   subst a3;rw[if_pos rfl] at e4;refine SK (TN (SQ (SQ ?_)));obtain⟨e5,dm,e4⟩:=bnd e4;refine RG (MV G G (ST (q0b G G dm) G (ST (q01 Tu91 G Ts3 Dc G) G (q0s [_,_,_,_,_,_,_,_,_,_,_,_,_] H G G Ku Kf Ts3 (by first|decide|(simp;done)|(simp;omega)) Kf Kf (q00 G) ?_))));intro w H;refine NL (TN (BL (SQ (RG (ST (q01 Tu91 G Ts3 Dc G) G (ST (XL H Ta3) G ?_))))));refine ST (q0j G G) G (AS G G (NL (TN ?_)));obtain⟨e6,N,e4⟩:=bnd e4
   refine q07 (fun e w => ∃ (ac : Ls) (ad : Int) (ae : Int) (ah : Int) (ai : Ls) (aj : Bool) (ak : Int) (al : Int) (am : Int) (av : Int) (aw : Int) (ax : List BT88) (ay : Value) (az : Ls) (b0 : Int) (b1 : Ls) (b2 : Int) (b3 : List BT90) (b4 : Value) (b5 : List BT90) (b6 : Value) (b7 : Int) (b8 : Ls) (b9 : Ls) (ba : Int) (M : Mem), e = [(0, ptr O 0), (2, ptr a8 0), (3, ptr a9 0)] /\ StX (feet [.blk O (.cells #[S J.1, I J.2.1, I J.2.2.1, I J.2.2.2.1, S J.2.2.2.2.1, Value.bool J.2.2.2.2.2.1, I J.2.2.2.2.2.2.1, I J.2.2.2.2.2.2.2.1, I J.2.2.2.2.2.2.2.2] 57)]) w0 M0 M [.blk O (.cells #[S ac, I ad, I ae, I ah, S ai, Value.bool aj, I ak, I al, I am] 57), .blk a8 (.cells #[I bp, I bq, ap, S bs, I bt, S bu, I bv, aq, ar, I bz, S c0, S c1, I c2] 91), .blk a9 (.cells #[I av, I aw, ay, S az, I b0, S b1, I b2, b4, b6, I b7, S b8, S b9, I ba] 91)] w /\ GlF (fun w => ∃ tp p, w.var? Tryz.prog "strconv.ErrRange" = some #[.iface tp p]) M /\ GlF (fun w => ∃ tp p, w.var? Tryz.prog "strconv.ErrSyntax" = some #[.iface tp p]) M /\ GlF (fun w => Lib.TabIs Tryz.prog w "internal/strconv.uint64pow10" .u64 Lib.pow10Tab) M /\ SlR xrl89 M ap br /\ SlR xrl91 M aq bw /\ SlR xrl91 M ar bx /\ SlR xrl89 M ay ax /\ SlR xrl91 M b4 b3 /\ SlR xrl91 M b6 b5 /\ some (ac, ad, ae, ah, ai, aj, ak, al, am, av, aw, ax, az, b0, b1, b2, b3, b5, b7, b8, b9, ba) = some e6) [] ?_ ?_ (trivial)
   ·
    refine CB (p:=e5=(6:Int)) G (fun an=>?_) fun an=>?_
    ·
     rw[if_pos an] at N;obtain⟨⟨ed,ee⟩,dy,N⟩:=bnd N;try dsimp only at N
     refine RG (MV G G (XC (A:=[.blk O (.cells #[S K.1,I K.2.1,I K.2.2.1,I K.2.2.2.1,S K.2.2.2.2.1,Value.bool K.2.2.2.2.2.1,I K.2.2.2.2.2.2.1,I K.2.2.2.2.2.2.2.1,I K.2.2.2.2.2.2.2.2] 57)]) H (Y3K dy) G ⟨u,z,f⟩ (q00 G) G Kt ?_));intro em M w its H E hR;replace u:=u.mono E;replace z:=z.mono E;replace f:=f.mono E;replace U:=U.mono E;replace V:=V.mono E;replace Y:=Y.mono E;replace Z:=Z.mono E;replace a0:=a0.mono E;replace a1:=a1.mono E;try dsimp only at hR
     obtain⟨rfl,rfl⟩:=hR;simp only[l01,l02] at H;refine ST (q01 Tu91 G Ts3 Dc G) G (q0s [_,_,_,_,_,_,_,_,_,_,_,_,_] H G G Ku Kf Ts3 (by first|decide|(simp;done)|(simp;omega)) Kf Kf (q00 G) ?_);intro w H;refine NL ?_;exact MN ⟨_,_,_,_,_,_,_,_,_,_,_,_,_,_,_,_,_,_,_,_,_,_,_,_,_,_,G,H,u,z,f,U,V,Y,Z,a0,a1,N⟩
    rw[if_neg an] at N;refine SQ ?_;obtain⟨ef,dz,N⟩:=bnd N;refine RG (ST (q01 Tu91 G Ts3 Dc G) G (ST (XL H Ta3) G ?_));refine q03 H (Y5o dz) G trivial (q00 G) G ?_;intro en M w H E hR;replace u:=u.mono E;replace z:=z.mono E;replace f:=f.mono E;replace U:=U.mono E;replace V:=V.mono E;replace Y:=Y.mono E;replace Z:=Z.mono E;replace a0:=a0.mono E;replace a1:=a1.mono E;obtain rfl:=hR;refine AS G G (NL (TN ?_));refine q09 G (fun ao=>?_) (fun ao=>?_)
    ·
     subst ao;rw[if_pos rfl] at N;obtain⟨⟨eg,eh⟩,e0,N⟩:=bnd N;try dsimp only at N
     refine RG (MV G G (XC (A:=[.blk O (.cells #[S K.1,I K.2.1,I K.2.2.1,I K.2.2.2.1,S K.2.2.2.2.1,Value.bool K.2.2.2.2.2.1,I K.2.2.2.2.2.2.1,I K.2.2.2.2.2.2.2.1,I K.2.2.2.2.2.2.2.2] 57)]) H (Y1f e0) G trivial (q00 G) G Kt ?_));intro eo M w its H E hR;replace u:=u.mono E;replace z:=z.mono E;replace f:=f.mono E;replace U:=U.mono E;replace V:=V.mono E;replace Y:=Y.mono E;replace Z:=Z.mono E;replace a0:=a0.mono E;replace a1:=a1.mono E;try dsimp only at hR
     obtain⟨rfl,rfl⟩:=hR;simp only[l01,l02] at H;refine ST (q01 Tu91 G Ts9 Dc G) G (q0s [_,_,_,_,_,_,_,_,_,_,_,_,_] H G G Ku Kf Ts9 (by first|decide|(simp;done)|(simp;omega)) Kf Kf (q00 G) ?_);intro w H;refine NL ?_;exact MN ⟨_,_,_,_,_,_,_,_,_,_,_,_,_,_,_,_,_,_,_,_,_,_,_,_,_,_,G,H,u,z,f,U,V,Y,Z,a0,a1,N⟩
    subst ao;rw[if_neg l00] at N;refine SK ?_;exact MN ⟨_,_,_,_,_,_,_,_,_,_,_,_,_,_,_,_,_,_,_,_,_,_,_,_,_,_,G,H,u,z,f,U,V,Y,Z,a0,a1,N⟩
   rintro e w ⟨ac,ad,ae,ah,ai,aj,ak,al,am,av,aw,ax,ay,az,b0,b1,b2,b3,b4,b5,b6,b7,b8,b9,ba,M,rfl,H,u,z,f,U,V,Y,a5,a6,a7,e7⟩;obtain rfl:=oI e7;try dsimp only at e4
   refine IB (TN (SQ ?_));obtain⟨a4,e1,e4⟩:=bnd e4;refine RG (MV G G (XC (A:=[.blk O (.cells #[S ac,I ad,I ae,I ah,S ai,Value.bool aj,I ak,I al,I am] 57)]) H (Y1e e1) G trivial (q00 G) G Kt ?_));intro ep M w its H E hR;replace a5:=a5.mono E;replace a6:=a6.mono E;replace a7:=a7.mono E;obtain⟨rfl,rfl⟩:=hR;simp only[l01,l02] at H;refine NL (TN (SQ (RG (ST (q0a H G Km Ta91 Ts91 Kf) G ?_))));refine q05 [_,_,_,_,_,_,_,_,_,_,_,_,_] H G G G Ku Ts91 G Kf (by simp only[l0f,l0j,(a5).one.2,(a6).one.2,(a7).one.2];rfl) (q00 G) ?_;intro w H;refine NL (TN (RT ?_));obtain rfl:=oI e4;try dsimp only at h
   obtain rfl:=oI h;exact q0x (its:=[.blk O (.cells #[S a4.1,I a4.2.1,I a4.2.2.1,I a4.2.2.2.1,S a4.2.2.2.2.1,Value.bool a4.2.2.2.2.2.1,I a4.2.2.2.2.2.2.1,I a4.2.2.2.2.2.2.2.1,I a4.2.2.2.2.2.2.2.2] 57)]) G ⟨_,G,H.loadAgg Km Ta91 Ts91 Kf⟩ H Kp ⟨_,_,_,G,a5,a6,a7,G⟩
  rw[if_neg ab] at e4;refine q0o (q04 (q04 (q0g ?_)));exact MN ⟨_,_,_,_,_,_,_,_,_,_,_,_,_,_,_,_,_,_,_,_,_,_,_,_,_,_,_,_,_,_,_,_,_,_,_,_,_,_,_,_,_,_,G,H,u,z,f,U,V,Y,Z,a0,a1,e4⟩
 rintro e w ⟨s5,n6,n7,n8,s9,c6,bb,bc,bd,c7,c8,c9,ca,cb,cc,cd,ce,cf,cg,ch,ci,cj,ck,cl,cm,cn,co,cp,cq,cr,cs,ct,cu,cv,cw,cx,cy,cz,d0,d1,d2,M,rfl,H,u,z,f,ei,ej,ek,dn,dp,dq,e8⟩;obtain rfl:=oI e8;try dsimp only at h
 refine TN (SQ (RG (MV G G (FN G G Tu57 G Ts4 G G (q0s [_,_,_,_,_,_,_,_,_] H G G Ku Kf Ts4 (by first|decide|(simp;done)|(simp;omega)) Kf Kf (q00 G) ?_)))));intro w H;refine NL (TN (SQ (RG (ST (q0a H G Km Ta91 Ts91 Kf) G ?_))));refine q05 [_,_,_,_,_,_,_,_,_,_,_,_,_] H G G G Ku Ts91 G Kf (by simp only[l0f,l0j,(dn).one.2,(dp).one.2,(dq).one.2];rfl) (q00 G) ?_;intro w H;refine NL (TN (RT ?_));obtain rfl:=oI h;exact q0x (its:=[.blk O (.cells #[S s5,I n6,I n7,I n8,S s9,Value.bool true,I bb,I bc,I bd] 57)]) G ⟨_,G,H.loadAgg Km Ta91 Ts91 Kf⟩ H Kp ⟨_,_,_,G,dn,dp,dq,G⟩
theorem Y5C {self : Z00 -> Option Z0F}(ih : ∀ {u : Z00} {K : Nat} {r : Z0F}, self u = some r -> CtX Tryz.prog 50 [ptr K 0] [.blk K (.cells #[S u.1, I u.2.1, I u.2.2.1, I u.2.2.2.1, S u.2.2.2.2.1, Value.bool u.2.2.2.2.2.1, I u.2.2.2.2.2.2.1, I u.2.2.2.2.2.2.2.1, I u.2.2.2.2.2.2.2.2] 57)] (fun M => GlF (fun w => ∃ tp p, w.var? Tryz.prog "strconv.ErrRange" = some #[.iface tp p]) M /\ GlF (fun w => ∃ tp p, w.var? Tryz.prog "strconv.ErrSyntax" = some #[.iface tp p]) M /\ GlF (fun w => Lib.TabIs Tryz.prog w "internal/strconv.uint64pow10" .u64 Lib.pow10Tab) M) (fun v M its => ∃ x0, v = x0 /\ SlR xrl91 M x0 r.1 /\ its = [.blk K (.cells #[S r.2.1, I r.2.2.1, I r.2.2.2.1, I r.2.2.2.2.1, S r.2.2.2.2.2.1, Value.bool r.2.2.2.2.2.2.1, I r.2.2.2.2.2.2.2.1, I r.2.2.2.2.2.2.2.2.1, I r.2.2.2.2.2.2.2.2.2] 57)])){u : Z00}{K : Nat}{r : Z0N}(h : Y2C self u = some r): CtX Tryz.prog 31 [ptr K 0] [.blk K (.cells #[S u.1, I u.2.1, I u.2.2.1, I u.2.2.2.1, S u.2.2.2.2.1, Value.bool u.2.2.2.2.2.1, I u.2.2.2.2.2.2.1, I u.2.2.2.2.2.2.2.1, I u.2.2.2.2.2.2.2.2] 57)] (fun M => GlF (fun w => ∃ tp p, w.var? Tryz.prog "strconv.ErrRange" = some #[.iface tp p]) M /\ GlF (fun w => ∃ tp p, w.var? Tryz.prog "strconv.ErrSyntax" = some #[.iface tp p]) M /\ GlF (fun w => Lib.TabIs Tryz.prog w "internal/strconv.uint64pow10" .u64 Lib.pow10Tab) M) (fun v M its => ∃ am an ao, v = Value.agg #[I r.1.1, I r.1.2.1, am, S r.1.2.2.2.1, I r.1.2.2.2.2.1, S r.1.2.2.2.2.2.1, I r.1.2.2.2.2.2.2.1, an, ao, I r.1.2.2.2.2.2.2.2.2.2.1, S r.1.2.2.2.2.2.2.2.2.2.2.1, S r.1.2.2.2.2.2.2.2.2.2.2.2.1, I r.1.2.2.2.2.2.2.2.2.2.2.2.2] /\ SlR xrl89 M am r.1.2.2.1 /\ SlR xrl91 M an r.1.2.2.2.2.2.2.2.1 /\ SlR xrl91 M ao r.1.2.2.2.2.2.2.2.2.1 /\ its = [.blk K (.cells #[S r.2.1, I r.2.2.1, I r.2.2.2.1, I r.2.2.2.2.1, S r.2.2.2.2.2.1, Value.bool r.2.2.2.2.2.2.1, I r.2.2.2.2.2.2.2.1, I r.2.2.2.2.2.2.2.2.1, I r.2.2.2.2.2.2.2.2.2] 57)]) := by
 refine q0T Tryz.func31 (enters Tryz.func31 Kr G) G G G ?_;intro w0 M0 H hp;obtain⟨z,E,f⟩:=hp;unfold Y2C at h;refine SQ (RG (q0f [_,_,_,_,_,_,_,_,_,_,_,_,_] H Tz91 G (q00 G) G ?_));intro ai w H;refine NL (TN (SQ (SQ ?_)));obtain⟨n1,ar,h⟩:=bnd h;refine RG (MV G G (FN G G Tu57 G Ts3 G G (ST (XL H Ta3) G ?_)));refine ST (q0b G G ar) G (FN G G Tu57 G Ts3 G G (q0s [_,_,_,_,_,_,_,_,_] H G G Ku Kf Ts3 (by first|decide|(simp;done)|(simp;omega)) Kf Kf (q00 G) ?_));intro w H;refine NL (TN (SQ ?_));obtain⟨o2,e3,h⟩:=bnd h
 refine q07 (fun e w => ∃ (b4 : Bool) (M : Mem), e = [(0, ptr K 0), (2, ptr ai 0), (23, Value.bool b4)] /\ StX (feet [.blk K (.cells #[S u.1, I u.2.1, I u.2.2.1, I u.2.2.2.1, S u.2.2.2.2.1, Value.bool u.2.2.2.2.2.1, I u.2.2.2.2.2.2.1, I u.2.2.2.2.2.2.2.1, I u.2.2.2.2.2.2.2.2] 57)]) w0 M0 M [.blk K (.cells #[S u.1, I u.2.1, I u.2.2.1, I u.2.2.2.1, S u.2.2.2.2.1, Value.bool u.2.2.2.2.2.1, I n1, I u.2.2.2.2.2.2.2.1, I u.2.2.2.2.2.2.2.2] 57), .blk ai (.cells #[I 0, I 0, Value.slice none 0 0, S [], I 0, S [], I 0, Value.slice none 0 0, Value.slice none 0 0, I 0, S [], S [], I 0] 91)] w /\ GlF (fun w => ∃ tp p, w.var? Tryz.prog "strconv.ErrRange" = some #[.iface tp p]) M /\ GlF (fun w => ∃ tp p, w.var? Tryz.prog "strconv.ErrSyntax" = some #[.iface tp p]) M /\ GlF (fun w => Lib.TabIs Tryz.prog w "internal/strconv.uint64pow10" .u64 Lib.pow10Tab) M /\ some b4 = some o2) [] ?_ ?_ (trivial)
 ·
  refine RG (MV G G (FN G G Tu57 G Ts3 G G (ST (XL H Ta3) G ?_)));by_cases aj:(100:Int)<n1
  ·
   rw[if_pos aj] at e3;refine DT aj (q0H G G) G (MV G G (q06 5 G G (PT G G G (NL ?_))));exact MN ⟨_,_,G,(H.pick (L':=[.blk K (.cells #[S u.1,I u.2.1,I u.2.2.1,I u.2.2.2.1,S u.2.2.2.2.1,Value.bool u.2.2.2.2.2.1,I n1,I u.2.2.2.2.2.2.2.1,I u.2.2.2.2.2.2.2.2] 57), .blk ai (.cells #[I 0,I 0,Value.slice none 0 0,S [],I 0,S [],I 0,Value.slice none 0 0,Value.slice none 0 0,I 0,S [],S [],I 0] 91)]) Kp),z,E,f,e3⟩
  rw[if_neg aj] at e3;refine DF aj (q0H G G) G (MV G G (SG (q02 G) G G G (SG (q0k G) G G G (SG (q01 Tu57 G Ts3 Dc G) G G G (SG (XL H Ta3) G G G ?_)))));refine SG (q0H G G) G G G (PF G G G (NL ?_));exact MN ⟨_,_,G,(H.pick (L':=[.blk K (.cells #[S u.1,I u.2.1,I u.2.2.1,I u.2.2.2.1,S u.2.2.2.2.1,Value.bool u.2.2.2.2.2.1,I n1,I u.2.2.2.2.2.2.2.1,I u.2.2.2.2.2.2.2.2] 57), .blk ai (.cells #[I 0,I 0,Value.slice none 0 0,S [],I 0,S [],I 0,Value.slice none 0 0,Value.slice none 0 0,I 0,S [],S [],I 0] 91)]) Kp),z,E,f,e3⟩
 rintro e w ⟨b4,M,rfl,H,z,E,f,q6⟩;obtain rfl:=oI q6;refine TN ?_;refine q09 G (fun ap=>?_) (fun ap=>?_)
 ·
  subst ap;rw[if_pos rfl] at h;refine SQ (RG (MV G G (FN G G Tu57 G Ts4 G G (q0s [_,_,_,_,_,_,_,_,_] H G G Ku Kf Ts4 (by first|decide|(simp;done)|(simp;omega)) Kf Kf (q00 G) ?_))));intro w H;refine NL (TN (SQ (RG (ST (q0A [I 0,I 0,Value.slice none 0 0,S [],I 0,S [],I 0,Value.slice none 0 0,Value.slice none 0 0,I 0,S [],S [],I 0] Tu91 Tz91 (xplaces91 Tu91) G Kr) G (q05 [_,_,_,_,_,_,_,_,_,_,_,_,_] H G G G Ku Ts91 G Kf Kf (q00 G) ?_)))));intro w H;refine NL (TN (RT ?_));obtain rfl:=oI h;exact q0x (its:=[.blk K (.cells #[S u.1,I u.2.1,I u.2.2.1,I u.2.2.2.1,S u.2.2.2.2.1,Value.bool true,I n1,I u.2.2.2.2.2.2.2.1,I u.2.2.2.2.2.2.2.2] 57)]) G ⟨_,G,H.loadAgg Km Ta91 Ts91 Kf⟩ H Kp ⟨_,_,_,G,q0U,q0U,q0U,G⟩
 subst ap;rw[if_neg l00] at h;refine SK (TN (SQ (BL (SQ ?_))));obtain⟨⟨b8,Z⟩,av,h⟩:=bnd h;try dsimp only at h
 refine RG (MV G G (XC (A:=[.blk K (.cells #[S u.1,I u.2.1,I u.2.2.1,I u.2.2.2.1,S u.2.2.2.2.1,Value.bool u.2.2.2.2.2.1,I n1,I u.2.2.2.2.2.2.2.1,I u.2.2.2.2.2.2.2.2] 57)]) H (Y0c av) G trivial (q00 G) G Kt ?_));intro bs M w its H J hR;replace z:=z.mono J;replace E:=E.mono J;replace f:=f.mono J;try dsimp only at hR
 obtain⟨rfl,rfl⟩:=hR;simp only[l01,l02] at H;refine AS G G (NL (TN ?_));refine q09 G (fun ac=>?_) (fun ac=>?_)
 ·
  subst ac;rw[if_pos rfl] at h;refine SQ ?_;obtain⟨⟨⟨bd,bt,be,bf,bg,bh⟩,a0⟩,aw,h⟩:=bnd h;try dsimp only at h
  obtain⟨⟨bu,a1⟩,ax,h⟩:=bnd h;try dsimp only at h
  refine RG (MV G G (XC (A:=[.blk K (.cells #[S Z.1,I Z.2.1,I Z.2.2.1,I Z.2.2.2.1,S Z.2.2.2.2.1,Value.bool Z.2.2.2.2.2.1,I Z.2.2.2.2.2.2.1,I Z.2.2.2.2.2.2.2.1,I Z.2.2.2.2.2.2.2.2] 57)]) H (Y5B aw) G ⟨z,E,f⟩ (q00 G) G Kt ?_));intro bv M w its H J hR;replace z:=z.mono J;replace E:=E.mono J;replace f:=f.mono J;try dsimp only at hR
  obtain⟨al,rfl,N,rfl⟩:=hR;simp only[l01,l02] at H;refine MV G G (XC (A:=[.blk K (.cells #[S a0.1,I a0.2.1,I a0.2.2.1,I a0.2.2.2.1,S a0.2.2.2.2.1,Value.bool a0.2.2.2.2.2.1,I a0.2.2.2.2.2.2.1,I a0.2.2.2.2.2.2.2.1,I a0.2.2.2.2.2.2.2.2] 57)]) H (ih ax) G ⟨z,E,f⟩ (q00 G) G Kt ?_);intro bi M w its H J hR;replace z:=z.mono J;replace E:=E.mono J;replace f:=f.mono J;replace N:=N.mono J;try dsimp only at hR
  obtain⟨bn,rfl,Y,rfl⟩:=hR;simp only[l01,l02] at H;refine ST (q0A [I 1,I bd,al,S be,I bf,S bg,I bh,bi,Value.slice none 0 0,I 0,S [],S [],I 0] Tu91 Tz91 (xplaces91 Tu91) G (by obtain⟨_,⟨_,_,_,hv,-⟩,-⟩:=N;rw [hv];clear hv;obtain ⟨_,⟨_,_,_,hv,-⟩,-⟩:=Y;rw [hv];clear hv;kernel_rfl)) G ?_;refine q0f [_,_,_,_,_,_,_,_,_,_,_,_,_] H Tz91 G (q00 G) G ?_;intro bw w H;refine q05 [_,_,_,_,_,_,_,_,_,_,_,_,_] H G G G Ku Ts91 G Kf (by simp only[l0f,l0j,(N).one.2,(Y).one.2];rfl) (q00 G) ?_;intro w H;refine NL (TN (SQ (SQ ?_)));obtain⟨⟨bx,O⟩,ay,h⟩:=bnd h;try dsimp only at h
  refine RG (MV G G (XC (A:=[.blk K (.cells #[S a1.1,I a1.2.1,I a1.2.2.1,I a1.2.2.2.1,S a1.2.2.2.2.1,Value.bool a1.2.2.2.2.2.1,I a1.2.2.2.2.2.2.1,I a1.2.2.2.2.2.2.2.1,I a1.2.2.2.2.2.2.2.2] 57)]) H (Y0c ay) G trivial (q00 G) G Kt ?_));intro bz M w its H J hR;replace z:=z.mono J;replace E:=E.mono J;replace f:=f.mono J;replace N:=N.mono J;replace Y:=Y.mono J;try dsimp only at hR
  obtain⟨rfl,rfl⟩:=hR;simp only[l01,l02] at H;refine NL (TN ?_);refine q09 G (fun ad=>?_) (fun ad=>?_)
  ·
   subst ad;rw[if_pos rfl] at h;obtain⟨⟨c0,a2⟩,az,h⟩:=bnd h;try dsimp only at h
   refine RG (MV G G (XC (A:=[.blk K (.cells #[S O.1,I O.2.1,I O.2.2.1,I O.2.2.2.1,S O.2.2.2.2.1,Value.bool O.2.2.2.2.2.1,I O.2.2.2.2.2.2.1,I O.2.2.2.2.2.2.2.1,I O.2.2.2.2.2.2.2.2] 57)]) H (ih az) G ⟨z,E,f⟩ (q00 G) G Kt ?_));intro c1 M w its H J hR;replace N:=N.mono J;replace Y:=Y.mono J;try dsimp only at hR
   obtain⟨bo,rfl,ab,rfl⟩:=hR;simp only[l01,l02] at H;refine ST (q01 Tu91 G Ts31 Dc G) G (q0J [_,_,_,_,_,_,_,_,_,_,_,_,_] H G G (ab.one) Ku Kf Ts31 (by first|decide|(simp;done)|(simp;omega)) (q00 G) ?_);intro w H;refine NL (TN (SQ (RG (ST (q0a H G Km Ta91 Ts91 Kf) G ?_))));refine q05 [_,_,_,_,_,_,_,_,_,_,_,_,_] H G G G Ku Ts91 G Kf (by simp only[l0f,l0j,(N).one.2,(Y).one.2,(ab).one.2];rfl) (q00 G) ?_;intro w H;refine NL (TN (RT ?_));obtain rfl:=oI h;exact q0x (its:=[.blk K (.cells #[S a2.1,I a2.2.1,I a2.2.2.1,I a2.2.2.2.1,S a2.2.2.2.2.1,Value.bool a2.2.2.2.2.2.1,I a2.2.2.2.2.2.2.1,I a2.2.2.2.2.2.2.2.1,I a2.2.2.2.2.2.2.2.2] 57)]) G ⟨_,G,H.loadAgg Km Ta91 Ts91 Kf⟩ H Kp ⟨_,_,_,G,N,Y,ab,G⟩
  subst ad;rw[if_neg l00] at h;refine SK (TN (SQ (RG (ST (q0a H G Km Ta91 Ts91 Kf) G ?_))));refine q05 [_,_,_,_,_,_,_,_,_,_,_,_,_] H G G G Ku Ts91 G Kf (by simp only[l0f,l0j,(N).one.2,(Y).one.2];rfl) (q00 G) ?_;intro w H;refine NL (TN (RT ?_));obtain rfl:=oI h;exact q0x (its:=[.blk K (.cells #[S O.1,I O.2.1,I O.2.2.1,I O.2.2.2.1,S O.2.2.2.2.1,Value.bool O.2.2.2.2.2.1,I O.2.2.2.2.2.2.1,I O.2.2.2.2.2.2.2.1,I O.2.2.2.2.2.2.2.2] 57)]) G ⟨_,G,H.loadAgg Km Ta91 Ts91 Kf⟩ H Kp ⟨_,_,_,G,N,Y,q0U,G⟩
 subst ac;rw[if_neg l00] at h;refine SQ ?_;obtain⟨⟨c2,U⟩,b0,h⟩:=bnd h;try dsimp only at h
 refine RG (MV G G (XC (A:=[.blk K (.cells #[S Z.1,I Z.2.1,I Z.2.2.1,I Z.2.2.2.1,S Z.2.2.2.2.1,Value.bool Z.2.2.2.2.2.1,I Z.2.2.2.2.2.2.1,I Z.2.2.2.2.2.2.2.1,I Z.2.2.2.2.2.2.2.2] 57)]) H (Y0c b0) G trivial (q00 G) G Kt ?_));intro c3 M w its H J hR;replace z:=z.mono J;replace E:=E.mono J;replace f:=f.mono J;try dsimp only at hR
 obtain⟨rfl,rfl⟩:=hR;simp only[l01,l02] at H;refine AS G G (NL (TN ?_));refine q09 G (fun ae=>?_) (fun ae=>?_)
 ·
  subst ae;rw[if_pos rfl] at h;refine SQ ?_;obtain⟨⟨bj,a3⟩,b1,h⟩:=bnd h;try dsimp only at h
  obtain⟨⟨bm,a4⟩,b2,h⟩:=bnd h;try dsimp only at h
  refine RG (MV G G (XC (A:=[.blk K (.cells #[S U.1,I U.2.1,I U.2.2.1,I U.2.2.2.1,S U.2.2.2.2.1,Value.bool U.2.2.2.2.2.1,I U.2.2.2.2.2.2.1,I U.2.2.2.2.2.2.2.1,I U.2.2.2.2.2.2.2.2] 57)]) H (Y1f b1) G trivial (q00 G) G Kt ?_));intro c4 M w its H J hR;try dsimp only at hR
  obtain⟨rfl,rfl⟩:=hR;simp only[l01,l02] at H;refine MV G G (XC (A:=[.blk K (.cells #[S a3.1,I a3.2.1,I a3.2.2.1,I a3.2.2.2.1,S a3.2.2.2.2.1,Value.bool a3.2.2.2.2.2.1,I a3.2.2.2.2.2.2.1,I a3.2.2.2.2.2.2.2.1,I a3.2.2.2.2.2.2.2.2] 57)]) H (Y1f b2) G trivial (q00 G) G Kt ?_);intro c5 M w its H J hR;try dsimp only at hR
  obtain⟨rfl,rfl⟩:=hR;simp only[l01,l02] at H;refine ST (q0A [I 3,I 0,Value.slice none 0 0,S [],I 0,S [],I 0,Value.slice none 0 0,Value.slice none 0 0,I 0,S bj,S bm,I 0] Tu91 Tz91 (xplaces91 Tu91) G Kr) G (q0f [_,_,_,_,_,_,_,_,_,_,_,_,_] H Tz91 G (q00 G) G ?_);intro c6 w H;refine q05 [_,_,_,_,_,_,_,_,_,_,_,_,_] H G G G Ku Ts91 G Kf Kf (q00 G) ?_;intro w H;refine NL (TN (SQ ?_));obtain⟨a5,b3,h⟩:=bnd h;refine RG (MV G G (XC (A:=[.blk K (.cells #[S a4.1,I a4.2.1,I a4.2.2.1,I a4.2.2.2.1,S a4.2.2.2.2.1,Value.bool a4.2.2.2.2.2.1,I a4.2.2.2.2.2.2.1,I a4.2.2.2.2.2.2.2.1,I a4.2.2.2.2.2.2.2.2] 57)]) H (Y1e b3) G trivial (q00 G) G Kt ?_));intro c7 M w its H J hR;obtain⟨rfl,rfl⟩:=hR;simp only[l01,l02] at H;refine NL (TN (SQ (RG (ST (q0a H G Km Ta91 Ts91 Kf) G ?_))));refine q05 [_,_,_,_,_,_,_,_,_,_,_,_,_] H G G G Ku Ts91 G Kf Kf (q00 G) ?_;intro w H;refine NL (TN (RT ?_));obtain rfl:=oI h;exact q0x (its:=[.blk K (.cells #[S a5.1,I a5.2.1,I a5.2.2.1,I a5.2.2.2.1,S a5.2.2.2.2.1,Value.bool a5.2.2.2.2.2.1,I a5.2.2.2.2.2.2.1,I a5.2.2.2.2.2.2.2.1,I a5.2.2.2.2.2.2.2.2] 57)]) G ⟨_,G,H.loadAgg Km Ta91 Ts91 Kf⟩ H Kp ⟨_,_,_,G,q0U,q0U,q0U,G⟩
 subst ae;rw[if_neg l00] at h;refine SQ ?_;obtain⟨⟨c8,V⟩,b5,h⟩:=bnd h;try dsimp only at h
 refine RG (MV G G (XC (A:=[.blk K (.cells #[S U.1,I U.2.1,I U.2.2.1,I U.2.2.2.1,S U.2.2.2.2.1,Value.bool U.2.2.2.2.2.1,I U.2.2.2.2.2.2.1,I U.2.2.2.2.2.2.2.1,I U.2.2.2.2.2.2.2.2] 57)]) H (Y0c b5) G trivial (q00 G) G Kt ?_));intro c9 M w its H J hR;replace z:=z.mono J;replace E:=E.mono J;replace f:=f.mono J;try dsimp only at hR
 obtain⟨rfl,rfl⟩:=hR;simp only[l01,l02] at H;refine AS G G (NL (TN ?_));refine q09 G (fun ah=>?_) (fun ah=>?_)
 ·
  subst ah;rw[if_pos rfl] at h;refine SQ ?_;obtain⟨a6,b6,h⟩:=bnd h;refine RG (MV G G (XC (A:=[.blk K (.cells #[S V.1,I V.2.1,I V.2.2.1,I V.2.2.2.1,S V.2.2.2.2.1,Value.bool V.2.2.2.2.2.1,I V.2.2.2.2.2.2.1,I V.2.2.2.2.2.2.2.1,I V.2.2.2.2.2.2.2.2] 57)]) H (Y1e b6) G trivial (q00 G) G Kt ?_));intro ca M w its H J hR;obtain⟨rfl,rfl⟩:=hR;simp only[l01,l02] at H;refine NL (TN (SQ (RG (ST (q0A [I 4,I 0,Value.slice none 0 0,S [],I 0,S [],I 0,Value.slice none 0 0,Value.slice none 0 0,I 0,S [],S [],I 0] Tu91 Tz91 (xplaces91 Tu91) G Kr) G (q05 [_,_,_,_,_,_,_,_,_,_,_,_,_] H G G G Ku Ts91 G Kf Kf (q00 G) ?_)))));intro w H;refine NL (TN (RT ?_));obtain rfl:=oI h;exact q0x (its:=[.blk K (.cells #[S a6.1,I a6.2.1,I a6.2.2.1,I a6.2.2.2.1,S a6.2.2.2.2.1,Value.bool a6.2.2.2.2.2.1,I a6.2.2.2.2.2.2.1,I a6.2.2.2.2.2.2.2.1,I a6.2.2.2.2.2.2.2.2] 57)]) G ⟨_,G,H.loadAgg Km Ta91 Ts91 Kf⟩ H Kp ⟨_,_,_,G,q0U,q0U,q0U,G⟩
 subst ah;rw[if_neg l00] at h;refine SK (IB (TN (SQ ?_)));obtain⟨⟨⟨cb,cc,cd,ce,cf,cg,ch,ci,cj,ck,cl,cm,cn⟩,a7⟩,b7,h⟩:=bnd h;try dsimp only at h
 refine RG (MV G G (XC (A:=[.blk K (.cells #[S V.1,I V.2.1,I V.2.2.1,I V.2.2.2.1,S V.2.2.2.2.1,Value.bool V.2.2.2.2.2.1,I V.2.2.2.2.2.2.1,I V.2.2.2.2.2.2.2.1,I V.2.2.2.2.2.2.2.2] 57)]) H (Y5d b7) G ⟨z,E,f⟩ (q00 G) G Kt ?_));intro co M w its H J hR;try dsimp only at hR
 obtain⟨b9,ba,bb,rfl,a8,a9,aa,rfl⟩:=hR;simp only[l01,l02] at H;refine q05 [_,_,_,_,_,_,_,_,_,_,_,_,_] H G G G Ku Ts91 G Kf (by simp only[l0f,l0j,(a8).one.2,(a9).one.2,(aa).one.2];rfl) (q00 G) ?_;intro w H;refine NL (TN (RT ?_));obtain rfl:=oI h;exact q0x (its:=[.blk K (.cells #[S a7.1,I a7.2.1,I a7.2.2.1,I a7.2.2.2.1,S a7.2.2.2.2.1,Value.bool a7.2.2.2.2.2.1,I a7.2.2.2.2.2.2.1,I a7.2.2.2.2.2.2.2.1,I a7.2.2.2.2.2.2.2.2] 57)]) G ⟨_,G,H.loadAgg Km Ta91 Ts91 Kf⟩ H Kp ⟨_,_,_,G,a8,a9,aa,G⟩
theorem Y3L {self : Z00 -> Option Z0F}(ih : ∀ {u : Z00} {J : Nat} {r : Z0F}, self u = some r -> CtX Tryz.prog 50 [ptr J 0] [.blk J (.cells #[S u.1, I u.2.1, I u.2.2.1, I u.2.2.2.1, S u.2.2.2.2.1, Value.bool u.2.2.2.2.2.1, I u.2.2.2.2.2.2.1, I u.2.2.2.2.2.2.2.1, I u.2.2.2.2.2.2.2.2] 57)] (fun M => GlF (fun w => ∃ tp p, w.var? Tryz.prog "strconv.ErrRange" = some #[.iface tp p]) M /\ GlF (fun w => ∃ tp p, w.var? Tryz.prog "strconv.ErrSyntax" = some #[.iface tp p]) M /\ GlF (fun w => Lib.TabIs Tryz.prog w "internal/strconv.uint64pow10" .u64 Lib.pow10Tab) M) (fun v M its => ∃ x0, v = x0 /\ SlR xrl91 M x0 r.1 /\ its = [.blk J (.cells #[S r.2.1, I r.2.2.1, I r.2.2.2.1, I r.2.2.2.2.1, S r.2.2.2.2.2.1, Value.bool r.2.2.2.2.2.2.1, I r.2.2.2.2.2.2.2.1, I r.2.2.2.2.2.2.2.2.1, I r.2.2.2.2.2.2.2.2.2] 57)])){u : Z00}{J : Nat}{r : Z0F}(h : Y1q self u = some r): CtX Tryz.prog 13 [ptr J 0] [.blk J (.cells #[S u.1, I u.2.1, I u.2.2.1, I u.2.2.2.1, S u.2.2.2.2.1, Value.bool u.2.2.2.2.2.1, I u.2.2.2.2.2.2.1, I u.2.2.2.2.2.2.2.1, I u.2.2.2.2.2.2.2.2] 57)] (fun M => GlF (fun w => ∃ tp p, w.var? Tryz.prog "strconv.ErrRange" = some #[.iface tp p]) M /\ GlF (fun w => ∃ tp p, w.var? Tryz.prog "strconv.ErrSyntax" = some #[.iface tp p]) M /\ GlF (fun w => Lib.TabIs Tryz.prog w "internal/strconv.uint64pow10" .u64 Lib.pow10Tab) M) (fun v M its => ∃ x0, v = x0 /\ SlR xrl91 M x0 r.1 /\ its = [.blk J (.cells #[S r.2.1, I r.2.2.1, I r.2.2.2.1, I r.2.2.2.2.1, S r.2.2.2.2.2.1, Value.bool r.2.2.2.2.2.2.1, I r.2.2.2.2.2.2.2.1, I r.2.2.2.2.2.2.2.2.1, I r.2.2.2.2.2.2.2.2.2] 57)]) := by
 refine q0T Tryz.func13 (enters Tryz.func13 Kr G) G G G ?_;intro w0 M0 H hp;obtain⟨z,E,f⟩:=hp;unfold Y1q at h;refine SQ (RG (AS G G (NL (TN (SQ (RG (AS G G (NL (TN (SQ ?_))))))))));obtain⟨o1,Y,h⟩:=bnd h
 refine q07 (fun e w => ∃ (l4 : List BT90) (v5 : Value) (g6 : List Z09) (s8 : Ls) (n9 : Int) (aj : Int) (ak : Int) (al : Ls) (am : Bool) (an : Int) (ao : Int) (ap : Int) (M : Mem), e = [(3, v5)] /\ StX (feet [.blk J (.cells #[S u.1, I u.2.1, I u.2.2.1, I u.2.2.2.1, S u.2.2.2.2.1, Value.bool u.2.2.2.2.2.1, I u.2.2.2.2.2.2.1, I u.2.2.2.2.2.2.2.1, I u.2.2.2.2.2.2.2.2] 57)]) w0 M0 M [RowS 91 xrl91.k xrl91.enc v5 g6, .blk J (.cells #[S s8, I n9, I aj, I ak, S al, Value.bool am, I an, I ao, I ap] 57)] w /\ GlF (fun w => ∃ tp p, w.var? Tryz.prog "strconv.ErrRange" = some #[.iface tp p]) M /\ GlF (fun w => ∃ tp p, w.var? Tryz.prog "strconv.ErrSyntax" = some #[.iface tp p]) M /\ GlF (fun w => Lib.TabIs Tryz.prog w "internal/strconv.uint64pow10" .u64 Lib.pow10Tab) M /\ RelL xrl91 M g6 l4 /\ some (l4, s8, n9, aj, ak, al, am, an, ao, ap) = some o1) [] ?_ ?_ (trivial)
 ·
  refine BL ?_;replace H:=H.newRowS 91 xrl91.k xrl91.enc;first|have ar:RelL xrl91 M [] []:=RelL.nil|have ar:RelL xrl91 M0 [] []:=RelL.nil
  refine q0p (fun m e w => ∃ (a2 : Ls) (a3 : Int) (a0 : Int) (a4 : Int) (a5 : Ls) (a1 : Bool) (a6 : Int) (a7 : Int) (a8 : Int) (ad : List BT90) (a9 : Value) (aa : List Z09) (M : Mem), e = [(0, ptr J 0), (3, a9)] /\ StX (feet [.blk J (.cells #[S u.1, I u.2.1, I u.2.2.1, I u.2.2.2.1, S u.2.2.2.2.1, Value.bool u.2.2.2.2.2.1, I u.2.2.2.2.2.2.1, I u.2.2.2.2.2.2.2.1, I u.2.2.2.2.2.2.2.2] 57)]) w0 M0 M [.blk J (.cells #[S a2, I a3, I a0, I a4, S a5, Value.bool a1, I a6, I a7, I a8] 57), RowS 91 xrl91.k xrl91.enc a9 aa] w /\ GlF (fun w => ∃ tp p, w.var? Tryz.prog "strconv.ErrRange" = some #[.iface tp p]) M /\ GlF (fun w => ∃ tp p, w.var? Tryz.prog "strconv.ErrSyntax" = some #[.iface tp p]) M /\ GlF (fun w => Lib.TabIs Tryz.prog w "internal/strconv.uint64pow10" .u64 Lib.pow10Tab) M /\ RelL xrl91 M aa ad /\ Y0k self m a2 a3 a0 a4 a5 a1 a6 a7 a8 ad = some o1) FU [(0, _), (3, _)] ⟨rfl, rfl, trivial⟩ ⟨_, _, _, _, _, _, _, _, _, _, _, _, _, rfl, (H.pick (L' := [.blk J (.cells #[S u.1, I u.2.1, I u.2.2.1, I u.2.2.2.1, S u.2.2.2.2.1, Value.bool u.2.2.2.2.2.1, I u.2.2.2.2.2.2.1, I u.2.2.2.2.2.2.2.1, I u.2.2.2.2.2.2.2.2] 57), RowS 91 xrl91.k xrl91.enc (Value.slice none 0 0) ([] : List Z09)]) Kp), z, E, f, ar, Y⟩ ?_
  rintro au e w ⟨a2,a3,a0,a4,a5,a1,a6,a7,a8,ad,a9,aa,M,rfl,H,z,E,f,K,Y⟩;rcases au with _|au
  · rw[Y0k] at Y;cases Y
  rw[Y0k] at Y;refine SQ (SQ ?_);obtain⟨bm,Z,Y⟩:=bnd Y
  refine q07 (fun e w => ∃ (av : Bool) (M : Mem), e = [(0, ptr J 0), (3, a9), (32, Value.bool av)] /\ StX (feet [.blk J (.cells #[S u.1, I u.2.1, I u.2.2.1, I u.2.2.2.1, S u.2.2.2.2.1, Value.bool u.2.2.2.2.2.1, I u.2.2.2.2.2.2.1, I u.2.2.2.2.2.2.2.1, I u.2.2.2.2.2.2.2.2] 57)]) w0 M0 M [.blk J (.cells #[S a2, I a3, I a0, I a4, S a5, Value.bool a1, I a6, I a7, I a8] 57), RowS 91 xrl91.k xrl91.enc a9 aa] w /\ GlF (fun w => ∃ tp p, w.var? Tryz.prog "strconv.ErrRange" = some #[.iface tp p]) M /\ GlF (fun w => ∃ tp p, w.var? Tryz.prog "strconv.ErrSyntax" = some #[.iface tp p]) M /\ GlF (fun w => Lib.TabIs Tryz.prog w "internal/strconv.uint64pow10" .u64 Lib.pow10Tab) M /\ RelL xrl91 M aa ad /\ some av = some bm) [] ?_ ?_ (trivial)
  ·
   refine RG (MV G G (FN G G Tu57 G Ts4 G G (ST (XL H Ta4) G ?_)));refine ST (q0y G) G (MV G G ?_);rcases a1 with _|_
   ·
    rw[if_neg l00] at Z;refine SG (q02 G) G G G (SG (q0k G) G G G (SG (q01 Tu57 G Ts55 Dc G) G G G (SG (q01 Tu55 G Ts3 Dc G) G G G (SG (XL H Ta3) G G G ?_))));by_cases ab:a0=(0:Int)
    ·
     rw[if_pos ab] at Z;refine q0l (v' := .bool false) (q0E G G) (congrArg Value.bool (by rw[decide_eq_true ab];rfl)) (q0h G G G) G G ?_;refine PT G G G (MV G G (q06 14 G G (PF G G G (NL ?_))));exact MN ⟨_,_,G,H,z,E,f,K,Z⟩
    rw[if_neg ab] at Z;refine q0l (v' := .bool true) (q0E G G) (congrArg Value.bool (by rw[decide_eq_false ab];rfl)) (q0h G G G) G G ?_;refine PT G G G (MV G G (SG (q02 G) G G G (SG (q0k G) G G G (SG (q01 Tu57 G Ts55 Dc G) G G G (SG (q01 Tu55 G Ts3 Dc G) G G G (SG (XL H Ta3) G G G ?_))))));by_cases ac:a0=(4:Int)
    ·
     rw[if_pos ac] at Z;refine q0l (v' := .bool false) (q0E G G) (congrArg Value.bool (by rw[decide_eq_true ac];rfl)) (q0h G G G) G G ?_;refine SG (q02 G) G G G (SG (q02 G) G G G (SG (q0k G) G G G (SG (q01 Tu57 G Ts55 Dc G) G G G (SG (q01 Tu55 G Ts9 Dc G) G G G (SG (XL H Ta9) G G G ?_)))));refine SG (q0z G G) G G G (SG (q0u G G) G G G (PT G G G (NL ?_)));exact MN ⟨_,_,G,H,z,E,f,K,Z⟩
    rw[if_neg ac] at Z;refine q0l (v' := .bool true) (q0E G G) (congrArg Value.bool (by rw[decide_eq_false ac];rfl)) (q0h G G G) G G ?_;refine SG (q02 G) G G G (q06 6 G G (SG (q0t G G) G G G (PT G G G (NL ?_))));exact MN ⟨_,_,G,H,z,E,f,K,Z⟩
   rw[if_pos rfl] at Z;refine q06 6 G G (PF G G G (MV G G (q06 14 G G (PF G G G (NL ?_)))));exact MN ⟨_,_,G,H,z,E,f,K,Z⟩
  rintro e w ⟨av,M,rfl,H,z,E,f,K,bn⟩;obtain rfl:=oI bn;refine TN ?_;refine q09 G (fun ae=>?_) (fun ae=>?_)
  ·
   subst ae;rw[if_pos rfl] at Y;refine SK (TN (BL ?_));obtain⟨⟨⟨b1,b2,bo,b3,b4,b5,b6,bp,bq,b7,b8,b9,ba⟩,bv⟩,be,Y⟩:=bnd Y;try dsimp only at Y
   obtain⟨bw,b0,Y⟩:=bnd Y;refine RG (MV G G (MV G G (XC (A:=[.blk J (.cells #[S a2,I a3,I a0,I a4,S a5,Value.bool a1,I a6,I a7,I a8] 57)]) H (Y5C @ih be) G ⟨z,E,f⟩ (q00 G) G Kt ?_)));intro bx M w its H N hR;replace z:=z.mono N;replace E:=E.mono N;replace f:=f.mono N;replace K:=K.mono N;try dsimp only at hR
   obtain⟨bg,bh,bi,rfl,O,U,V,rfl⟩:=hR;simp only[l01,l02] at H;have Hn:=H;obtain⟨br,rfl⟩:=O.hd;have H:=Hn;have Hn:=H;obtain⟨bs,rfl⟩:=U.hd;have H:=Hn;have Hn:=H;obtain⟨bt,rfl⟩:=V.hd;have H:=Hn;refine q0Q (enc:=xrl91.enc) xty31 ([(b1,b2,br,b3,b4,b5,b6,bs,bt,b7,b8,b9,ba)]:List Z09) H (fun _=>G) G Kr G G G (q00 G) G ?_;intro bz M w H N ah;replace z:=z.mono N;replace E:=E.mono N;replace f:=f.mono N;replace K:=K.mono N;replace O:=O.mono N;replace U:=U.mono N;replace V:=V.mono N;replace ah:=q1q (R:=xrl91) (l:=([(BT90.of (b1,b2,bo,b3,b4,b5,b6,bp,bq,b7,b8,b9,ba))]:List BT90)) ah ⟨(rmk90 ⟨rfl,rfl,O,rfl,rfl,rfl,rfl,U,V,rfl,rfl,rfl,rfl⟩),trivial⟩;refine WR.appRC (R:=xrl91) (l:=ad) xty31 G H K G (fun _=>by repeat first|exact .head|apply Upd.tail) G (ah) b0 (q00 G) G ?_;intro c0 c1 w bf H;refine AS G G (NL (IB ?_));exact AG au ⟨_,_,_,_,_,_,_,_,_,_,_,_,_,G,H,z,E,f,bf,Y⟩ (l04 _)
  subst ae;rw[if_neg l00] at Y;refine q0o (q04 (q04 (q0g ?_)));exact MN ⟨_,_,_,_,_,_,_,_,_,_,_,_,_,G,(H.pick (L':=[RowS 91 xrl91.k xrl91.enc a9 aa, .blk J (.cells #[S a2,I a3,I a0,I a4,S a5,Value.bool a1,I a6,I a7,I a8] 57)]) Kp),z,E,f,K,Y⟩
 rintro e w ⟨l4,v5,g6,s8,n9,aj,ak,al,am,an,ao,ap,M,rfl,H,z,E,f,aw,bu⟩;obtain rfl:=oI bu;try dsimp only at h
 refine TN (SQ (RG (MV G G (AS G G (NL (TN (RT ?_)))))));obtain⟨M,N,ai,H⟩:=H.freezeRowSN (v:=v5) (enc:=xrl91.enc) (t:=91) Kv (fun _=>rfl) ⟨⟨_,Km⟩,trivial⟩;replace aw:=aw.mono N;replace ai:=q1q (R:=xrl91) ai aw;obtain rfl:=oI h;exact q0x (its:=[.blk J (.cells #[S s8,I n9,I aj,I ak,S al,Value.bool am,I an,I ao,I ap] 57)]) G G H Kp ⟨_,G,ai,G⟩
theorem Y56 {self : Z00 -> Option Z0F}(ih : ∀ {f : Z00} {K : Nat} {r : Z0F}, self f = some r -> CtX Tryz.prog 50 [ptr K 0] [.blk K (.cells #[S f.1, I f.2.1, I f.2.2.1, I f.2.2.2.1, S f.2.2.2.2.1, Value.bool f.2.2.2.2.2.1, I f.2.2.2.2.2.2.1, I f.2.2.2.2.2.2.2.1, I f.2.2.2.2.2.2.2.2] 57)] (fun M => GlF (fun w => ∃ tp p, w.var? Tryz.prog "strconv.ErrRange" = some #[.iface tp p]) M /\ GlF (fun w => ∃ tp p, w.var? Tryz.prog "strconv.ErrSyntax" = some #[.iface tp p]) M /\ GlF (fun w => Lib.TabIs Tryz.prog w "internal/strconv.uint64pow10" .u64 Lib.pow10Tab) M) (fun v M its => ∃ Z, v = Z /\ SlR xrl91 M Z r.1 /\ its = [.blk K (.cells #[S r.2.1, I r.2.2.1, I r.2.2.2.1, I r.2.2.2.2.1, S r.2.2.2.2.2.1, Value.bool r.2.2.2.2.2.2.1, I r.2.2.2.2.2.2.2.1, I r.2.2.2.2.2.2.2.2.1, I r.2.2.2.2.2.2.2.2.2] 57)])){f : Z00}{K : Nat}{r : Z0F}(h : Y21 self f = some r): CtX Tryz.prog 50 [ptr K 0] [.blk K (.cells #[S f.1, I f.2.1, I f.2.2.1, I f.2.2.2.1, S f.2.2.2.2.1, Value.bool f.2.2.2.2.2.1, I f.2.2.2.2.2.2.1, I f.2.2.2.2.2.2.2.1, I f.2.2.2.2.2.2.2.2] 57)] (fun M => GlF (fun w => ∃ tp p, w.var? Tryz.prog "strconv.ErrRange" = some #[.iface tp p]) M /\ GlF (fun w => ∃ tp p, w.var? Tryz.prog "strconv.ErrSyntax" = some #[.iface tp p]) M /\ GlF (fun w => Lib.TabIs Tryz.prog w "internal/strconv.uint64pow10" .u64 Lib.pow10Tab) M) (fun v M its => ∃ Z, v = Z /\ SlR xrl91 M Z r.1 /\ its = [.blk K (.cells #[S r.2.1, I r.2.2.1, I r.2.2.2.1, I r.2.2.2.2.1, S r.2.2.2.2.2.1, Value.bool r.2.2.2.2.2.2.1, I r.2.2.2.2.2.2.2.1, I r.2.2.2.2.2.2.2.2.1, I r.2.2.2.2.2.2.2.2.2] 57)]) := by
 refine CtX.ofD Tryz.func50 (enters Tryz.func50 Kr G) G G G ?_;intro w0 M0 H hp;obtain⟨z,E,u⟩:=hp;unfold Y21 at h;refine SQ (RG (q0I [_] H G G (q00 G) G ?_));intro a1 w H;refine AS G G (NL (TN (SQ ?_)));obtain⟨V,a3,h⟩:=bnd h;refine RG (ST (XL H Ta53) G ?_);refine XC (A:=[.blk K (.cells #[S f.1,I f.2.1,I f.2.2.1,I f.2.2.2.1,S f.2.2.2.2.1,Value.bool f.2.2.2.2.2.1,I f.2.2.2.2.2.2.1,I f.2.2.2.2.2.2.2.1,I f.2.2.2.2.2.2.2.2] 57)]) H (Y1e a3) G trivial (q00 G) G Kt ?_;intro v5 M w its H J hR;replace z:=z.mono J;replace E:=E.mono J;replace u:=u.mono J;obtain⟨rfl,rfl⟩:=hR;simp only[l01,l02] at H;refine NL (TN (SQ ?_));obtain⟨n3,a2,h⟩:=bnd h;refine RG (ST (XL H Ta53) G ?_);refine FN G G Tu57 G Ts3 G G (ST (XL H Ta3) G ?_);refine ST (q0b G G a2) G (FN G G Tu57 G Ts3 G G (q0s [_,_,_,_,_,_,_,_,_] H G G Ku Kf Ts3 (by first|decide|(simp;done)|(simp;omega)) Kf Kf (q00 G) ?_));intro w H;refine NL (TN (SQ (RG ?_)));obtain⟨M,J,N,H⟩:=H.freezeVarN (b:=a1) Kv ⟨⟨_,Km⟩,trivial⟩;replace z:=z.mono J;replace E:=E.mono J;replace u:=u.mono J;refine ST (q1m G) G (WR.deferS (cap:=[ptr a1 0]) G (q00 G) (NL (TN (SQ ?_))));obtain⟨⟨l5,O⟩,a4,h⟩:=bnd h;try dsimp only at h
 refine RG (ST (q0m H G (N.cell (j:=0) G) Ta53) G (XC (A:=[.blk K (.cells #[S V.1,I V.2.1,I V.2.2.1,I V.2.2.2.1,S V.2.2.2.2.1,Value.bool V.2.2.2.2.2.1,I V.2.2.2.2.2.2.1,I n3,I V.2.2.2.2.2.2.2.2] 57)]) H (Y3L @ih a4) G ⟨z,E,u⟩ (q00 G) G Kt ?_));intro a9 M w its H J hR;replace N:=N.mono J;try dsimp only at hR
 obtain⟨a7,rfl,U,rfl⟩:=hR;simp only[l01,l02] at H;refine AS G G (NL (TN (SQ ?_)));obtain⟨Y,a5,h⟩:=bnd h;refine RG (ST (q0m H G (N.cell (j:=0) G) Ta53) G (XC (A:=[.blk K (.cells #[S O.1,I O.2.1,I O.2.2.1,I O.2.2.2.1,S O.2.2.2.2.1,Value.bool O.2.2.2.2.2.1,I O.2.2.2.2.2.2.1,I O.2.2.2.2.2.2.2.1,I O.2.2.2.2.2.2.2.2] 57)]) H (Y1e a5) G trivial (q00 G) G Kt ?_));intro aa M w its H J hR;replace U:=U.mono J;replace N:=N.mono J;obtain⟨rfl,rfl⟩:=hR;simp only[l01,l02] at H;refine NL (TN (SQ (RG (MV G G (AS G G (NL (TN (RT ?_))))))));refine q1r (n':=8) Tryz.func83 (enters Tryz.func83 Kr G) G G G (fun a ha=>?_);obtain⟨a6,a0,h⟩:=bnd h;refine RG (ST (q0m H G (N.cell (j:=0) G) Ta53) G (FN G G Tu57 G Ts3 G G (ST (XL H Ta3) G ?_)));refine ST (q0W G G a0) G (FN G G Tu57 G Ts3 G G (q0s [_,_,_,_,_,_,_,_,_] H G G Ku Kf Ts3 (by first|decide|(simp;done)|(simp;omega)) Kf Kf (q00 G) ?_));intro w H;refine NL ?_;obtain rfl:=oI h;exact q1p (its:=[.blk K (.cells #[S Y.1,I Y.2.1,I Y.2.2.1,I Y.2.2.2.1,S Y.2.2.2.2.1,Value.bool Y.2.2.2.2.2.1,I Y.2.2.2.2.2.2.1,I a6,I Y.2.2.2.2.2.2.2.2] 57)]) G G ha G H Kp ⟨_,G,U,G⟩
theorem Y3M : ∀ (m : Nat) {f : Z00} {u : Nat} {r : Z0F}, Y0Z m f = some r -> CtX Tryz.prog 50 [ptr u 0] [.blk u (.cells #[S f.1, I f.2.1, I f.2.2.1, I f.2.2.2.1, S f.2.2.2.2.1, Value.bool f.2.2.2.2.2.1, I f.2.2.2.2.2.2.1, I f.2.2.2.2.2.2.2.1, I f.2.2.2.2.2.2.2.2] 57)] (fun M => GlF (fun w => ∃ tp p, w.var? Tryz.prog "strconv.ErrRange" = some #[.iface tp p]) M /\ GlF (fun w => ∃ tp p, w.var? Tryz.prog "strconv.ErrSyntax" = some #[.iface tp p]) M /\ GlF (fun w => Lib.TabIs Tryz.prog w "internal/strconv.uint64pow10" .u64 Lib.pow10Tab) M) (fun v M its => ∃ z, v = z /\ SlR xrl91 M z r.1 /\ its = [.blk u (.cells #[S r.2.1, I r.2.2.1, I r.2.2.2.1, I r.2.2.2.2.1, S r.2.2.2.2.2.1, Value.bool r.2.2.2.2.2.2.1, I r.2.2.2.2.2.2.2.1, I r.2.2.2.2.2.2.2.2.1, I r.2.2.2.2.2.2.2.2.2] 57)])
 | 0,_,_,_,h=>by rw[Y0Z] at h;cases h
 | m+1,_,_,_,h=>Y56 (fun h=>Y3M m h) (by rw[Y0Z] at h;exact h)
theorem Y5p {f : Z00}{u : Nat}{r : Z0F}(h : Y2Z f = some r): CtX Tryz.prog 50 [ptr u 0] [.blk u (.cells #[S f.1, I f.2.1, I f.2.2.1, I f.2.2.2.1, S f.2.2.2.2.1, Value.bool f.2.2.2.2.2.1, I f.2.2.2.2.2.2.1, I f.2.2.2.2.2.2.2.1, I f.2.2.2.2.2.2.2.2] 57)] (fun M => GlF (fun w => ∃ tp p, w.var? Tryz.prog "strconv.ErrRange" = some #[.iface tp p]) M /\ GlF (fun w => ∃ tp p, w.var? Tryz.prog "strconv.ErrSyntax" = some #[.iface tp p]) M /\ GlF (fun w => Lib.TabIs Tryz.prog w "internal/strconv.uint64pow10" .u64 Lib.pow10Tab) M) (fun v M its => ∃ z, v = z /\ SlR xrl91 M z r.1 /\ its = [.blk u (.cells #[S r.2.1, I r.2.2.1, I r.2.2.2.1, I r.2.2.2.2.1, S r.2.2.2.2.2.1, Value.bool r.2.2.2.2.2.2.1, I r.2.2.2.2.2.2.2.1, I r.2.2.2.2.2.2.2.2.1, I r.2.2.2.2.2.2.2.2.2] 57)]) := Y3M FU h
theorem Y6y {u:Z01}{z:Value}{r:Bool}(h:Y3r u=some r):Ct Tryz.prog 86 [Value.agg #[I u.1,z,S u.2.2.1,I u.2.2.2.1,S u.2.2.2.2.1,I u.2.2.2.2.2]] (fun M=>SlR xrl89 M z u.2.1) (fun v M=>v=Value.bool r):=by
 refine Ct.of Tryz.func86 (enters Tryz.func86 Kr G) G G G ?_;intro Y M0 H hp;have U:=hp;unfold Y3r at h;refine SQ (RG (q0I [_,_,_,_,_,_] H G G (q00 G) G ?_));intro a1 w H;refine AS G G (NL (TN (SQ ?_)));obtain⟨Z,f,h⟩:=bnd h;refine q07 (fun e w =>∃(V:Bool) (M:Mem),e=[(2,Value.bool V)]/\St Y M0 M [] w/\some V=some Z) [] ?_ ?_ (trivial)
 ·
  refine RG (ST (q01 Tu89 G Ts3 Dc G) G (ST (XL H Ta3) G ?_));by_cases E:u.1=(0:Int)
  ·
   rw[if_pos E] at f;refine DT E (q0j G G) G (MV G G (SG (q01 Tu89 G Ts87 Dc G) G G G (SG (XL H Ta87) G G G ?_)));refine SG (q0S Tu87 U G) G G G ?_;by_cases J:(u.2.1.length:Int)=(0:Int)
   ·
    rw[if_pos J] at f;refine DU J (q0j G G) G G G (PT G G G (MV G G (SG (q01 Tu89 G Ts9 Dc G) G G G (SG (XL H Ta9) G G G ?_))));by_cases K:u.2.2.1=[]
    ·
     rw[if_pos K] at f;refine DU K (q0N G G) G G G (PT G G G (MV G G (SG (q01 Tu89 G Ts3 Dc G) G G G (SG (XL H Ta3) G G G ?_))));by_cases N:u.2.2.2.1=(0:Int)
     ·
      rw[if_pos N] at f;refine DU N (q0j G G) G G G (PT G G G (MV G G (SG (q01 Tu89 G Ts9 Dc G) G G G (SG (XL H Ta9) G G G ?_))));by_cases O:u.2.2.2.2.1=[]
      ·
       rw[if_pos O] at f;refine DU O (q0N G G) G G G (PT G G G (MV G G (SG (q01 Tu89 G Ts3 Dc G) G G G (SG (XL H Ta3) G G G ?_))));refine SG (q0j G G) G G G (PT G G G (AS G G (NL ?_)));exact MN ⟨_,_,G,(H.pick (L':=[]) Kp),f⟩
      rw[if_neg O] at f;refine DG O (q0N G G) G G G (PT G G G (MV G G (q06 3 G G (PF G G G (AS G G (NL ?_))))));exact MN ⟨_,_,G,(H.pick (L':=[]) Kp),f⟩
     rw[if_neg N] at f;refine DG N (q0j G G) G G G (PT G G G (MV G G (q06 3 G G (PF G G G (MV G G (q06 3 G G (PF G G G (AS G G (NL ?_)))))))));exact MN ⟨_,_,G,(H.pick (L':=[]) Kp),f⟩
    rw[if_neg K] at f;refine DG K (q0N G G) G G G (PT G G G (MV G G (q06 3 G G (PF G G G (MV G G (q06 3 G G (PF G G G (MV G G (q06 3 G G (PF G G G (AS G G (NL ?_))))))))))));exact MN ⟨_,_,G,(H.pick (L':=[]) Kp),f⟩
   rw[if_neg J] at f;refine DG J (q0j G G) G G G (PT G G G (MV G G (q06 3 G G (PF G G G (MV G G (q06 3 G G (PF G G G (MV G G (q06 3 G G (PF G G G (MV G G (q06 3 G G (PF G G G (AS G G (NL ?_)))))))))))))));exact MN ⟨_,_,G,(H.pick (L':=[]) Kp),f⟩
  rw[if_neg E] at f;refine DF E (q0j G G) G (MV G G (q06 4 G G (PF G G G (MV G G (q06 3 G G (PF G G G (MV G G (q06 3 G G (PF G G G (MV G G (q06 3 G G (PF G G G (MV G G (q06 3 G G (PF G G G (AS G G (NL ?_)))))))))))))))));exact MN ⟨_,_,G,(H.pick (L':=[]) Kp),f⟩
 rintro e w ⟨V,M,rfl,H,q9⟩;obtain rfl:=oI q9;refine TN (RT ?_);obtain rfl:=oI h;exact q08 G G H.ext G
theorem Y45 {J:Ls}{N:(UInt8->Option Bool)}{E:Value}{r:Bool}(h:Y2S J N=some r):Ct Tryz.prog 92 [S J,E] (fun M=>FnT85 M E N) (fun v M=>v=Value.bool r):=by
 refine Ct.of Tryz.func92 (enters Tryz.func92 Kr G) G G G ?_;intro Z M0 H hp;have z:=hp;unfold Y2S at h;refine SQ (RG (AS G G (NL (TN (SQ (SQ (RG (MV G G (ST (q0q Tu9 G) G (MV G G (NL (TN ?_))))))))))));obtain⟨o1,f,h⟩:=bnd h;refine q07 (fun e w =>∃  (M:Mem),e=[]/\St Z M0 M [] w/\some (.inl ())=some o1) [] ?_ ?_ (trivial)
 ·
  refine BL (q0p (fun m e w =>∃(O:Int) (M:Mem),e=[(0,S J),(1,E),(7,I (J.length:Int)),(8,I O)]/\St Z M0 M [] w/\FnT85 M E N/\Y1U J N m O=some o1) FU [(0,_),(1,_),(7,_),(8,_)] ⟨rfl,rfl,rfl,rfl,trivial⟩ ⟨_,_,rfl,H,z,f⟩ ?_);rintro V e w ⟨O,M,rfl,H,z,f⟩;rcases V with _|V
  · rw[Y1U] at f;cases f
  rw[Y1U] at f;refine SQ (RG (ST (q0n G G) G (NL (TN (SQ ?_)))));refine CB (p:=O<(J.length:Int)) G (fun K=>?_) fun K=>?_
  ·
   rw[if_pos K] at f;refine SK (TN (SQ (BL (SQ (RG (MV G G (AS G G (NL (TN (SQ ?_))))))))));obtain⟨c6,Y,f⟩:=bnd f;obtain⟨b7,a2,f⟩:=bnd f;refine RG (MV G G (MV G G (MV G G (ST (q0G Tu9 G G Y) G (WR.callF H (z _ _ a2) G G (q00 G) G ?_)))));intro a5 M w H a3 hR;replace z:=z.mono a3;obtain rfl:=hR;refine ST (q0y G) G (NL (TN ?_));refine q09 G (fun u=>?_) (fun u=>?_)
   ·
    replace u:b7=false:=by simpa using u
    subst u;rw[if_neg l00] at f;refine SQ (RG (AS G G (NL (TN (RT ?_)))));obtain rfl:=oI f;try dsimp only at h
    obtain rfl:=oI h;exact q08 G G H.ext G
   replace u:b7=true:=by simpa using u
   subst u;rw[if_pos rfl] at f;refine SK (IB (TN ?_));obtain⟨a6,U,f⟩:=bnd f;refine RG (ST (q0b G G U) G (MV G G (NL ?_)));exact AG V ⟨_,_,G,H,z,f⟩ (l04 _)
  rw[if_neg K] at f;refine q0o (q04 (q04 (q0g ?_)));exact MN ⟨_,G,H,f⟩
 rintro e w ⟨M,rfl,H,a4⟩;obtain rfl:=oI a4;try dsimp only at h
 refine TN (SQ (RG (AS G G (NL (TN (RT ?_))))));obtain rfl:=oI h;exact q08 G G H.ext G
theorem Y5R {f:UInt8}{r:Bool}(h:Y2s f=some r):Ct Tryz.prog 115 [encB f] (fun M=>True) (fun v M=>v=Value.bool r):=by
 refine Ct.of Tryz.func115 (enters Tryz.func115 Kr G) G G G ?_;intro O M0 H hp;unfold Y2s at h;refine SQ (RG (AS G G (NL (TN (SQ ?_)))));obtain⟨U,u,h⟩:=bnd h;refine q07 (fun e w =>∃(N:Bool) (M:Mem),e=[(2,Value.bool N)]/\St O M0 M [] w/\some N=some U) [] ?_ ?_ (trivial)
 ·
  by_cases z:97<=f.toNat
  ·
   rw[if_pos z] at u;refine RG (MV G G (DT z (q0K (i:=f.toNat) (j:=97) G G) G (MV G G (SG (q02 G) G G G ?_))));by_cases E:f.toNat<=122
   ·
    rw[if_pos E] at u;refine DU E (q0X (i:=f.toNat) (j:=122) G G) G G G (PT G G G (MV G G (q06 6 G G (PT G G G (AS G G (NL ?_))))));exact MN ⟨_,_,G,H,u⟩
   rw[if_neg E] at u;refine DG E (q0X (i:=f.toNat) (j:=122) G G) G G G (PT G G G (MV G G (SG (q02 G) G G G ?_)));by_cases J:48<=f.toNat
   ·
    rw[if_pos J] at u;refine DU J (q0K (i:=f.toNat) (j:=48) G G) G G G (SG (q02 G) G G G (SG (q02 G) G G G (SG (q0X (i:=f.toNat) (j:=57) G G) G G G (SG (q0t G G) G G G (PF G G G (AS G G (NL ?_)))))));exact MN ⟨_,_,G,H,u⟩
   rw[if_neg J] at u;refine DG J (q0K (i:=f.toNat) (j:=48) G G) G G G (SG (q02 G) G G G (GF G G G (GF G G G (SG (q0u G G) G G G (PF G G G (AS G G (NL ?_)))))));exact MN ⟨_,_,G,H,u⟩
  rw[if_neg z] at u;refine RG (MV G G (DF z (q0K (i:=f.toNat) (j:=97) G G) G (MV G G (GF G G G (GF G G G (PF G G G (MV G G (SG (q02 G) G G G ?_))))))));by_cases K:48<=f.toNat
  ·
   rw[if_pos K] at u;refine DU K (q0K (i:=f.toNat) (j:=48) G G) G G G (SG (q02 G) G G G (SG (q02 G) G G G (SG (q0X (i:=f.toNat) (j:=57) G G) G G G (SG (q0t G G) G G G (PF G G G (AS G G (NL ?_)))))));exact MN ⟨_,_,G,H,u⟩
  rw[if_neg K] at u;refine DG K (q0K (i:=f.toNat) (j:=48) G G) G G G (SG (q02 G) G G G (GF G G G (GF G G G (SG (q0u G G) G G G (PF G G G (AS G G (NL ?_)))))));exact MN ⟨_,_,G,H,u⟩
 rintro e w ⟨N,M,rfl,H,V⟩;obtain rfl:=oI V;refine TN (RT ?_);obtain rfl:=oI h;exact q08 G G H.ext G
theorem Y6d {E:Ls}{r:Bool}(h:Y3g E=some r):Ct Tryz.prog 87 [S E] (fun M=>True) (fun v M=>v=Value.bool r):=by
 refine Ct.of Tryz.func87 (enters Tryz.func87 Kr G) G G G ?_;intro O M0 H hp;unfold Y3g at h;refine SQ (RG (AS G G (NL (TN (SQ (RG (AS G G (NL (TN (SQ ?_))))))))));obtain⟨U,f,h⟩:=bnd h;refine q07 (fun e w =>∃(J:Bool) (M:Mem),e=[(2,Value.bool J)]/\St O M0 M [] w/\some J=some U) [] ?_ ?_ (trivial)
 ·
  by_cases u:E=[]
  ·
   rw[if_pos u] at f;refine RG (MV G G (q0l (v' := .bool false) (q0z G G) (congrArg Value.bool (by rw[decide_eq_true u];rfl)) (q00 G) G G ?_));refine MV G G (q06 3 G G (PF G G G (MV G G (q06 3 G G (PF G G G (MV G G (q06 3 G G (PF G G G (AS G G (NL ?_))))))))));exact MN ⟨_,_,G,H,f⟩
  rw[if_neg u] at f;refine RG (MV G G (q0l (v' := .bool true) (q0z G G) (congrArg Value.bool (by rw[decide_eq_false u];rfl)) (q00 G) G G ?_));refine MV G G (SG (q02 G) G G G (SG (q0q Tu9 G) G G G ?_));by_cases z:(E.length:Int)<=(60:Int)
  ·
   rw[if_pos z] at f;obtain⟨V,N,f⟩:=bnd f;refine DU z (q1h G G) G G G (PT G G G (MV G G (SG (q02 G) G G G (SG (q02 G) G G G (q03 H (Y45 N) G ((fun _ _ h=>FnV.of (Y5R h) (fun _ _=>trivial))) (q0h G G G) G ?_)))));intro a0 M w H a1 hR;obtain rfl:=hR;refine PT G G G (MV G G ?_);rcases V with _|_
   ·
    rw[if_neg l00] at f;refine q06 3 G G (PF G G G (AS G G (NL ?_)));exact MN ⟨_,_,G,H,f⟩
   rw[if_pos rfl] at f;obtain⟨Y,K,f⟩:=bnd f;refine SG (q02 G) G G G (SG (q0G Tu9 G G K) G G G (SG (Ex.gtrB (i:=Y.toNat) (j:=57) G G) G G G (PT G G G (AS G G (NL ?_)))));exact MN ⟨_,_,G,H,f⟩
  rw[if_neg z] at f;refine DG z (q1h G G) G G G (PT G G G (MV G G (q06 3 G G (PF G G G (MV G G (q06 3 G G (PF G G G (AS G G (NL ?_)))))))));exact MN ⟨_,_,G,H,f⟩
 rintro e w ⟨J,M,rfl,H,Z⟩;obtain rfl:=oI Z;refine TN (RT ?_);obtain rfl:=oI h;exact q08 G G H.ext G
end Go.Proofs.YtgicephoflppiaaGreatDoor
end
section
namespace Go.Proofs.YtgicephoflppiaaGreatDoor
open Go Go.RowKit Go.Ph Go.Ph.Pl Go.Ph.Pf
set_option maxHeartbeats 4000000 in
theorem Y6N {E:Z05} {N:Value} {O:Value} {U:Value} {r:Int} (h:Y3Q E=some r):Ct Tryz.prog 54 [Value.agg #[I E.1,I E.2.1,N,S E.2.2.2.1,I E.2.2.2.2.1,S E.2.2.2.2.2.1,I E.2.2.2.2.2.2.1,O,U,I E.2.2.2.2.2.2.2.2.2.1,S E.2.2.2.2.2.2.2.2.2.2.1,S E.2.2.2.2.2.2.2.2.2.2.2.1,I E.2.2.2.2.2.2.2.2.2.2.2.2]] (fun M=>SlR xrl89 M N E.2.2.1/\SlR xrl91 M O E.2.2.2.2.2.2.2.1/\SlR xrl91 M U E.2.2.2.2.2.2.2.2.1) (fun v M=>v=I r):=by
 refine Ct.of Tryz.func54 (enters Tryz.func54 Kr G) G G G ?_;intro w0 M0 H hp;obtain⟨f,u,z⟩:=hp;unfold Y3Q at h;refine SQ (RG (q0I [_,_,_,_,_,_,_,_,_,_,_,_,_] H G G (q00 G) G ?_));intro Y w H;refine AS G G (NL (TN (SQ (RG (ST (q01 Tu91 G Ts3 Dc G) G (ST (XL H Ta3) G ?_))))));refine ST (q0j G G) G (AS G G (NL (TN (SQ (BL (SQ ?_))))));obtain⟨o1,J,h⟩:=bnd h;refine q07 (fun e w =>∃(b3:Bool) (M:Mem),e=[(1,ptr Y 0),(3,Value.bool (decide (E.1=(2:Int)))),(7,Value.bool b3)]/\St w0 M0 M [.blk Y (.cells #[I E.1,I E.2.1,N,S E.2.2.2.1,I E.2.2.2.2.1,S E.2.2.2.2.2.1,I E.2.2.2.2.2.2.1,O,U,I E.2.2.2.2.2.2.2.2.2.1,S E.2.2.2.2.2.2.2.2.2.2.1,S E.2.2.2.2.2.2.2.2.2.2.2.1,I E.2.2.2.2.2.2.2.2.2.2.2.2] 91)] w/\SlR xrl89 M N E.2.2.1/\SlR xrl91 M O E.2.2.2.2.2.2.2.1/\SlR xrl91 M U E.2.2.2.2.2.2.2.2.1/\some b3=some o1) [] ?_ ?_ (trivial)
 ·
  obtain⟨b4,b7,J⟩:=bnd J;refine RG (ST (q01 Tu91 G Ts89 Dc G) G (ST (q1n (us:=[_,_,_,_,_,_]) H G Km Ta89 Ts89 G G) G ?_));refine q03 H (Y6y b7) G (f) (q00 G) G ?_;intro bn M w H V hR;replace f:=f.mono V;replace u:=u.mono V;replace z:=z.mono V;obtain rfl:=hR;refine ST (q0y G) G (MV G G ?_);rcases b4 with _|_
  ·
   rw[if_neg l00] at J;refine q06 8 G G (PT G G G (MV G G (q06 12 G G (PT G G G (MV G G (q06 8 G G (PT G G G (MV G G (q06 8 G G (PT G G G (AS G G (NL ?_))))))))))));exact MN ⟨_,_,G,H,f,u,z,J⟩
  rw[if_pos rfl] at J;obtain⟨n6,b2,J⟩:=bnd J;refine SG (q01 Tu91 G Ts31 Dc G) G G G (SG (XL H Ta31) G G G ?_);refine SG (q0S Tu31 u G) G G G (SG (q01 Tu91 G Ts31 Dc G) G G G (SG (XL H Ta31) G G G ?_));refine SG (q0S Tu31 z G) G G G (SG (q0b G G b2) G G G ?_);by_cases aq:(0:Int)<n6
  ·
   rw[if_pos aq] at J;refine DU aq (q0H G G) G G G (PF G G G (MV G G (q06 12 G G (PT G G G (MV G G (q06 8 G G (PT G G G (MV G G (q06 8 G G (PT G G G (AS G G (NL ?_))))))))))));exact MN ⟨_,_,G,H,f,u,z,J⟩
  rw[if_neg aq] at J;refine DG aq (q0H G G) G G G (PF G G G (MV G G (SG (q02 G) G G G ?_)));by_cases ar:E.1=(2:Int)
  ·
   rw[if_pos ar] at J;refine q0l (v' := .bool false) (q0y G) (congrArg Value.bool (by rw[decide_eq_true ar];rfl)) (q0h G G G) G G ?_;refine SG (q02 G) G G G (q06 8 G G (SG (q0u G G) G G G (PF G G G (MV G G (SG (q01 Tu91 G Ts3 Dc G) G G G (SG (XL H Ta3) G G G ?_))))));by_cases au:E.1=(3:Int)
   ·
    rw[if_pos au] at J;refine q0l (v' := .bool false) (q0E G G) (congrArg Value.bool (by rw[decide_eq_true au];rfl)) (q0h G G G) G G ?_;refine SG (q02 G) G G G (q06 3 G G (SG (q0u G G) G G G (PF G G G (MV G G (SG (q01 Tu91 G Ts3 Dc G) G G G (SG (XL H Ta3) G G G ?_))))));by_cases a1:E.1=(4:Int)
    ·
     rw[if_pos a1] at J;refine DU a1 (q0j G G) G G G (SG (q02 G) G G G (SG (q01 Tu91 G Ts9 Dc G) G G G (SG (XL H Ta9) G G G ?_)));refine SG (q0z G G) G G G (SG (q0t G G) G G G (PF G G G (AS G G (NL ?_))));exact MN ⟨_,_,G,H,f,u,z,J⟩
    rw[if_neg a1] at J;refine DG a1 (q0j G G) G G G (SG (q02 G) G G G (q06 3 G G (SG (q0u G G) G G G (PF G G G (AS G G (NL ?_))))));exact MN ⟨_,_,G,H,f,u,z,J⟩
   rw[if_neg au] at J;refine q0l (v' := .bool true) (q0E G G) (congrArg Value.bool (by rw[decide_eq_false au];rfl)) (q0h G G G) G G ?_;refine SG (q02 G) G G G (SG (q01 Tu91 G Ts9 Dc G) G G G (SG (XL H Ta9) G G G ?_));by_cases a2:E.2.2.2.2.2.2.2.2.2.2.1=[]
   ·
    rw[if_pos a2] at J;refine q0l (v' := .bool false) (q0z G G) (congrArg Value.bool (by rw[decide_eq_true a2];rfl)) (q0h G G G) G G ?_;refine SG (q0t G G) G G G (PF G G G (MV G G (SG (q01 Tu91 G Ts3 Dc G) G G G (SG (XL H Ta3) G G G ?_))));by_cases a3:E.1=(4:Int)
    ·
     rw[if_pos a3] at J;refine DU a3 (q0j G G) G G G (SG (q02 G) G G G (SG (q01 Tu91 G Ts9 Dc G) G G G (SG (XL H Ta9) G G G ?_)));refine SG (q0z G G) G G G (SG (q0t G G) G G G (PF G G G (AS G G (NL ?_))));exact MN ⟨_,_,G,H,f,u,z,J⟩
    rw[if_neg a3] at J;refine DG a3 (q0j G G) G G G (SG (q02 G) G G G (q06 3 G G (SG (q0u G G) G G G (PF G G G (AS G G (NL ?_))))));exact MN ⟨_,_,G,H,f,u,z,J⟩
   rw[if_neg a2] at J;refine q0l (v' := .bool true) (q0z G G) (congrArg Value.bool (by rw[decide_eq_false a2];rfl)) (q0h G G G) G G ?_;refine SG (q0t G G) G G G (PF G G G (MV G G (q06 8 G G (PT G G G (AS G G (NL ?_))))));exact MN ⟨_,_,G,H,f,u,z,J⟩
  rw[if_neg ar] at J;refine q0l (v' := .bool true) (q0y G) (congrArg Value.bool (by rw[decide_eq_false ar];rfl)) (q0h G G G) G G ?_;refine SG (q02 G) G G G (SG (q01 Tu91 G Ts3 Dc G) G G G (SG (XL H Ta3) G G G ?_));by_cases a4:E.2.2.2.2.2.2.2.2.2.1=(0:Int)
  ·
   rw[if_pos a4] at J;refine q0l (v' := .bool false) (q0E G G) (congrArg Value.bool (by rw[decide_eq_true a4];rfl)) (q0h G G G) G G ?_;refine SG (q02 G) G G G (SG (q01 Tu91 G Ts3 Dc G) G G G (SG (XL H Ta3) G G G ?_));by_cases a5:E.2.2.2.2.2.2.2.2.2.2.2.2=(0:Int)
   ·
    rw[if_pos a5] at J;refine q0l (v' := .bool false) (q0E G G) (congrArg Value.bool (by rw[decide_eq_true a5];rfl)) (q0h G G G) G G ?_;refine SG (q0u G G) G G G (SG (q0t G G) G G G (PF G G G (MV G G (SG (q01 Tu91 G Ts3 Dc G) G G G (SG (XL H Ta3) G G G ?_)))));by_cases a6:E.1=(3:Int)
    ·
     rw[if_pos a6] at J;refine q0l (v' := .bool false) (q0E G G) (congrArg Value.bool (by rw[decide_eq_true a6];rfl)) (q0h G G G) G G ?_;refine SG (q02 G) G G G (q06 3 G G (SG (q0u G G) G G G (PF G G G (MV G G (SG (q01 Tu91 G Ts3 Dc G) G G G (SG (XL H Ta3) G G G ?_))))));by_cases a7:E.1=(4:Int)
     ·
      rw[if_pos a7] at J;refine DU a7 (q0j G G) G G G (SG (q02 G) G G G (SG (q01 Tu91 G Ts9 Dc G) G G G (SG (XL H Ta9) G G G ?_)));refine SG (q0z G G) G G G (SG (q0t G G) G G G (PF G G G (AS G G (NL ?_))));exact MN ⟨_,_,G,H,f,u,z,J⟩
     rw[if_neg a7] at J;refine DG a7 (q0j G G) G G G (SG (q02 G) G G G (q06 3 G G (SG (q0u G G) G G G (PF G G G (AS G G (NL ?_))))));exact MN ⟨_,_,G,H,f,u,z,J⟩
    rw[if_neg a6] at J;refine q0l (v' := .bool true) (q0E G G) (congrArg Value.bool (by rw[decide_eq_false a6];rfl)) (q0h G G G) G G ?_;refine SG (q02 G) G G G (SG (q01 Tu91 G Ts9 Dc G) G G G (SG (XL H Ta9) G G G ?_));by_cases a8:E.2.2.2.2.2.2.2.2.2.2.1=[]
    ·
     rw[if_pos a8] at J;refine q0l (v' := .bool false) (q0z G G) (congrArg Value.bool (by rw[decide_eq_true a8];rfl)) (q0h G G G) G G ?_;refine SG (q0t G G) G G G (PF G G G (MV G G (SG (q01 Tu91 G Ts3 Dc G) G G G (SG (XL H Ta3) G G G ?_))));by_cases a9:E.1=(4:Int)
     ·
      rw[if_pos a9] at J;refine DU a9 (q0j G G) G G G (SG (q02 G) G G G (SG (q01 Tu91 G Ts9 Dc G) G G G (SG (XL H Ta9) G G G ?_)));refine SG (q0z G G) G G G (SG (q0t G G) G G G (PF G G G (AS G G (NL ?_))));exact MN ⟨_,_,G,H,f,u,z,J⟩
     rw[if_neg a9] at J;refine DG a9 (q0j G G) G G G (SG (q02 G) G G G (q06 3 G G (SG (q0u G G) G G G (PF G G G (AS G G (NL ?_))))));exact MN ⟨_,_,G,H,f,u,z,J⟩
    rw[if_neg a8] at J;refine q0l (v' := .bool true) (q0z G G) (congrArg Value.bool (by rw[decide_eq_false a8];rfl)) (q0h G G G) G G ?_;refine SG (q0t G G) G G G (PF G G G (MV G G (q06 8 G G (PT G G G (AS G G (NL ?_))))));exact MN ⟨_,_,G,H,f,u,z,J⟩
   rw[if_neg a5] at J;refine q0l (v' := .bool true) (q0E G G) (congrArg Value.bool (by rw[decide_eq_false a5];rfl)) (q0h G G G) G G ?_;refine SG (q0u G G) G G G (SG (q0t G G) G G G (PF G G G (MV G G (q06 8 G G (PT G G G (MV G G (q06 8 G G (PT G G G (AS G G (NL ?_))))))))));exact MN ⟨_,_,G,H,f,u,z,J⟩
  rw[if_neg a4] at J;refine q0l (v' := .bool true) (q0E G G) (congrArg Value.bool (by rw[decide_eq_false a4];rfl)) (q0h G G G) G G ?_;refine SG (q02 G) G G G (q06 3 G G (SG (q0t G G) G G G (SG (q0t G G) G G G (PF G G G (MV G G (q06 8 G G (PT G G G (MV G G (q06 8 G G (PT G G G (AS G G (NL ?_))))))))))));exact MN ⟨_,_,G,H,f,u,z,J⟩
 rintro e w ⟨b3,M,rfl,H,f,u,z,b8⟩;obtain rfl:=oI b8;refine TN ?_;refine q09 G (fun ak=>?_) (fun ak=>?_)
 ·
  subst ak;rw[if_pos rfl] at h;refine SQ (RG (AS G G (NL (TN (RT ?_)))));obtain rfl:=oI h;exact q08 G G H.ext G
 subst ak;rw[if_neg l00] at h;refine SQ ?_;obtain⟨b9,Z,h⟩:=bnd h;refine q07 (fun e w =>∃(ax:Bool) (M:Mem),e=[(1,ptr Y 0),(3,Value.bool (decide (E.1=(2:Int)))),(56,Value.bool ax)]/\St w0 M0 M [.blk Y (.cells #[I E.1,I E.2.1,N,S E.2.2.2.1,I E.2.2.2.2.1,S E.2.2.2.2.2.1,I E.2.2.2.2.2.2.1,O,U,I E.2.2.2.2.2.2.2.2.2.1,S E.2.2.2.2.2.2.2.2.2.2.1,S E.2.2.2.2.2.2.2.2.2.2.2.1,I E.2.2.2.2.2.2.2.2.2.2.2.2] 91)] w/\SlR xrl89 M N E.2.2.1/\SlR xrl91 M O E.2.2.2.2.2.2.2.1/\SlR xrl91 M U E.2.2.2.2.2.2.2.2.1/\some ax=some b9) [] ?_ ?_ (trivial)
 ·
  refine RG (MV G G (MV G G ?_));by_cases aa:E.1=(2:Int)
  ·
   rw[if_pos aa] at Z;rw[decide_eq_true aa];refine SG (q01 Tu91 G Ts3 Dc G) G G G (SG (XL H Ta3) G G G ?_);by_cases ab:E.2.2.2.2.2.2.2.2.2.1<(1:Int)
   ·
    rw[if_pos ab] at Z;refine DU ab (q0n G G) G G G (SG (q02 G) G G G (q06 3 G G (SG (q0t G G) G G G (PT G G G (AS G G (NL ?_))))));exact MN ⟨_,_,G,H,f,u,z,Z⟩
   rw[if_neg ab] at Z;refine DG ab (q0n G G) G G G (SG (q02 G) G G G (SG (q01 Tu91 G Ts3 Dc G) G G G (SG (XL H Ta3) G G G ?_)));refine SG (q0H G G) G G G (SG (q0u G G) G G G (PT G G G (AS G G (NL ?_))));exact MN ⟨_,_,G,H,f,u,z,Z⟩
  rw[if_neg aa] at Z;rw[decide_eq_false aa];refine q06 8 G G (PF G G G (AS G G (NL ?_)));exact MN ⟨_,_,G,H,f,u,z,Z⟩
 rintro e w ⟨ax,M,rfl,H,f,u,z,ba⟩;obtain rfl:=oI ba;refine TN ?_;refine q09 G (fun al=>?_) (fun al=>?_)
 ·
  subst al;rw[if_pos rfl] at h;refine SQ (RG (AS G G (NL (TN (RT ?_)))));obtain rfl:=oI h;exact q08 G G H.ext G
 subst al;rw[if_neg l00] at h;refine SQ ?_;obtain⟨bb,K,h⟩:=bnd h;refine q07 (fun e w =>∃(ay:Bool) (M:Mem),e=[(1,ptr Y 0),(68,Value.bool ay)]/\St w0 M0 M [.blk Y (.cells #[I E.1,I E.2.1,N,S E.2.2.2.1,I E.2.2.2.2.1,S E.2.2.2.2.2.1,I E.2.2.2.2.2.2.1,O,U,I E.2.2.2.2.2.2.2.2.2.1,S E.2.2.2.2.2.2.2.2.2.2.1,S E.2.2.2.2.2.2.2.2.2.2.2.1,I E.2.2.2.2.2.2.2.2.2.2.2.2] 91)] w/\SlR xrl89 M N E.2.2.1/\SlR xrl91 M O E.2.2.2.2.2.2.2.1/\SlR xrl91 M U E.2.2.2.2.2.2.2.2.1/\some ay=some bb) [] ?_ ?_ (trivial)
 ·
  refine RG (MV G G (MV G G ?_));by_cases ac:E.1=(2:Int)
  ·
   rw[if_pos ac] at K;rw[decide_eq_true ac];obtain⟨bc,b5,K⟩:=bnd K;refine SG (q01 Tu91 G Ts3 Dc G) G G G (SG (XL H Ta3) G G G ?_);refine q03 H (Y5o b5) G trivial (q0h G G G) G ?_;intro bo M w H V hR;replace f:=f.mono V;replace u:=u.mono V;replace z:=z.mono V;obtain rfl:=hR;refine SG (q0y G) G G G (SG (q02 G) G G G ?_);rcases bc with _|_
   ·
    rw[if_neg l00] at K;refine SG (q01 Tu91 G Ts9 Dc G) G G G (SG (XL H Ta9) G G G ?_);by_cases ad:E.2.2.2.2.2.2.2.2.2.2.2.1=[]
    ·
     rw[if_pos ad] at K;refine q0l (v' := .bool false) (q0z G G) (congrArg Value.bool (by rw[decide_eq_true ad];rfl)) (q0h G G G) G G ?_;refine SG (q0t G G) G G G (SG (q02 G) G G G (SG (q01 Tu91 G Ts3 Dc G) G G G (SG (XL H Ta3) G G G ?_)));by_cases ae:E.2.2.2.2.2.2.2.2.2.1=(6:Int)
     ·
      rw[if_pos ae] at K;refine q0l (v' := .bool false) (q0E G G) (congrArg Value.bool (by rw[decide_eq_true ae];rfl)) (q0h G G G) G G ?_;refine SG (q02 G) G G G (q06 3 G G (SG (q0u G G) G G G (SG (q0u G G) G G G (PT G G G (AS G G (NL ?_))))));exact MN ⟨_,_,G,H,f,u,z,K⟩
     rw[if_neg ae] at K;refine q0l (v' := .bool true) (q0E G G) (congrArg Value.bool (by rw[decide_eq_false ae];rfl)) (q0h G G G) G G ?_;refine SG (q02 G) G G G (SG (q01 Tu91 G Ts3 Dc G) G G G (SG (XL H Ta3) G G G ?_));refine SG (q0E G G) G G G (SG (q0t G G) G G G (SG (q0u G G) G G G (PT G G G (AS G G (NL ?_)))));exact MN ⟨_,_,G,H,f,u,z,K⟩
    rw[if_neg ad] at K;refine q0l (v' := .bool true) (q0z G G) (congrArg Value.bool (by rw[decide_eq_false ad];rfl)) (q0h G G G) G G ?_;refine SG (q0t G G) G G G (SG (q02 G) G G G (q06 8 G G (SG (q0t G G) G G G (PT G G G (AS G G (NL ?_))))));exact MN ⟨_,_,G,H,f,u,z,K⟩
   rw[if_pos rfl] at K;refine q06 3 G G (SG (q0u G G) G G G (SG (q02 G) G G G (SG (q01 Tu91 G Ts3 Dc G) G G G (SG (XL H Ta3) G G G ?_))));by_cases ah:E.2.2.2.2.2.2.2.2.2.1=(6:Int)
   ·
    rw[if_pos ah] at K;refine q0l (v' := .bool false) (q0E G G) (congrArg Value.bool (by rw[decide_eq_true ah];rfl)) (q0h G G G) G G ?_;refine SG (q02 G) G G G (q06 3 G G (SG (q0u G G) G G G (SG (q0u G G) G G G (PT G G G (AS G G (NL ?_))))));exact MN ⟨_,_,G,H,f,u,z,K⟩
   rw[if_neg ah] at K;refine q0l (v' := .bool true) (q0E G G) (congrArg Value.bool (by rw[decide_eq_false ah];rfl)) (q0h G G G) G G ?_;refine SG (q02 G) G G G (SG (q01 Tu91 G Ts3 Dc G) G G G (SG (XL H Ta3) G G G ?_));refine SG (q0E G G) G G G (SG (q0t G G) G G G (SG (q0u G G) G G G (PT G G G (AS G G (NL ?_)))));exact MN ⟨_,_,G,H,f,u,z,K⟩
  rw[if_neg ac] at K;rw[decide_eq_false ac];refine q06 19 G G (PF G G G (AS G G (NL ?_)));exact MN ⟨_,_,G,H,f,u,z,K⟩
 rintro e w ⟨ay,M,rfl,H,f,u,z,bd⟩;obtain rfl:=oI bd;refine TN ?_;refine q09 G (fun am=>?_) (fun am=>?_)
 ·
  subst am;rw[if_pos rfl] at h;refine SQ (RG (AS G G (NL (TN (RT ?_)))));obtain rfl:=oI h;exact q08 G G H.ext G
 subst am;rw[if_neg l00] at h;refine SQ ?_;obtain⟨be,a0,h⟩:=bnd h;refine q07 (fun e w =>∃(az:Bool) (M:Mem),e=[(1,ptr Y 0),(91,Value.bool az)]/\St w0 M0 M [.blk Y (.cells #[I E.1,I E.2.1,N,S E.2.2.2.1,I E.2.2.2.2.1,S E.2.2.2.2.2.1,I E.2.2.2.2.2.2.1,O,U,I E.2.2.2.2.2.2.2.2.2.1,S E.2.2.2.2.2.2.2.2.2.2.1,S E.2.2.2.2.2.2.2.2.2.2.2.1,I E.2.2.2.2.2.2.2.2.2.2.2.2] 91)] w/\SlR xrl89 M N E.2.2.1/\SlR xrl91 M O E.2.2.2.2.2.2.2.1/\SlR xrl91 M U E.2.2.2.2.2.2.2.2.1/\some az=some be) [] ?_ ?_ (trivial)
 ·
  refine RG (ST (q01 Tu91 G Ts3 Dc G) G (ST (XL H Ta3) G ?_));by_cases ai:E.1=(3:Int)
  ·
   rw[if_pos ai] at a0;obtain⟨bp,b6,a0⟩:=bnd a0;refine DT ai (q0j G G) G (MV G G (SG (q01 Tu91 G Ts9 Dc G) G G G (SG (XL H Ta9) G G G ?_)));refine q03 H (Y6d b6) G trivial (q0h G G G) G ?_;intro bq M w H V hR;replace f:=f.mono V;replace u:=u.mono V;replace z:=z.mono V;obtain rfl:=hR;refine SG (q0y G) G G G (PT G G G (AS G G (NL ?_)));exact MN ⟨_,_,G,H,f,u,z,a0⟩
  rw[if_neg ai] at a0;refine DF ai (q0j G G) G (MV G G (q06 4 G G (PF G G G (AS G G (NL ?_)))));exact MN ⟨_,_,G,H,f,u,z,a0⟩
 rintro e w ⟨az,M,rfl,H,f,u,z,bf⟩;obtain rfl:=oI bf;refine TN ?_;refine q09 G (fun an=>?_) (fun an=>?_)
 ·
  subst an;rw[if_pos rfl] at h;refine SQ (RG (AS G G (NL (TN (RT ?_)))));obtain rfl:=oI h;exact q08 G G H.ext G
 subst an;rw[if_neg l00] at h;refine SQ (RG (ST (q01 Tu91 G Ts9 Dc G) G (ST (XL H Ta9) G ?_)));refine ST (q0q Tu9 G) G (ST (q0H G G) G (AS G G (NL (TN ?_))));refine CB (p:=(200:Int)<(E.2.2.2.2.2.2.2.2.2.2.2.1.length:Int)) G (fun ao=>?_) fun ao=>?_
 ·
  rw[if_pos ao] at h;refine SQ (RG (AS G G (NL (TN (RT ?_)))));obtain rfl:=oI h;exact q08 G G H.ext G
 rw[if_neg ao] at h;refine SQ ?_;obtain⟨bg,av,h⟩:=bnd h;refine q07 (fun e w =>∃(b0:Bool) (M:Mem),e=[(106,Value.bool b0)]/\St w0 M0 M [] w/\some b0=some bg) [] ?_ ?_ (trivial)
 ·
  refine RG (ST (q01 Tu91 G Ts3 Dc G) G (ST (XL H Ta3) G ?_));by_cases aj:E.2.2.2.2.2.2.2.2.2.2.2.2<(0:Int)
  ·
   rw[if_pos aj] at av;refine DT aj (q0n G G) G (MV G G (q06 3 G G (PT G G G (AS G G (NL ?_)))));exact MN ⟨_,_,G,(H.pick (L':=[]) Kp),av⟩
  rw[if_neg aj] at av;refine DF aj (q0n G G) G (MV G G (SG (q01 Tu91 G Ts3 Dc G) G G G (SG (XL H Ta3) G G G ?_)));refine SG (q0H G G) G G G (PF G G G (AS G G (NL ?_)));exact MN ⟨_,_,G,(H.pick (L':=[]) Kp),av⟩
 rintro e w ⟨b0,M,rfl,H,bh⟩;obtain rfl:=oI bh;refine TN ?_;refine q09 G (fun ap=>?_) (fun ap=>?_)
 ·
  subst ap;rw[if_pos rfl] at h;refine SQ (RG (AS G G (NL (TN (RT ?_)))));obtain rfl:=oI h;exact q08 G G H.ext G
 subst ap;rw[if_neg l00] at h;refine SK (IB (TN (SQ (RG (AS G G (NL (TN (RT ?_))))))));obtain rfl:=oI h;exact q08 G G H.ext G
theorem Y6X {f:Int}{r:(Bool × Bool × Bool)}(h:Y4W f=some r):Ct Tryz.prog 88 [I f] (fun M=>True) (fun v M=>v=Value.tuple #[Value.bool r.1,Value.bool r.2.1,Value.bool r.2.2]):=by
 refine Ct.of Tryz.func88 (enters Tryz.func88 Kr G) G G G ?_;intro U M0 H hp;unfold Y4W at h;refine SQ (RG (AS G G (AS G G (AS G G (NL (TN (SQ (SQ (RG (MV G G (NL (TN (BL (SQ (RG (ST (q0j G G) G (AS G G (NL (TN ?_)))))))))))))))))));refine CB (p:=f=(5:Int)) G (fun u=>?_) fun u=>?_
 ·
  rw[if_pos u] at h;refine SQ (RG (AS G G (AS G G (AS G G (NL (TN (RT ?_)))))));obtain rfl:=oI h;exact q1c G G G G H.ext G
 rw[if_neg u] at h;refine SQ (SQ (RG (ST (q0j G G) G (AS G G (NL (TN ?_))))));obtain⟨V,N,h⟩:=bnd h;refine q07 (fun e w =>∃(O:Bool) (M:Mem),e=[(5,I f),(8,Value.bool O)]/\St U M0 M [] w/\some O=some V) [] ?_ ?_ (trivial)
 ·
  refine CB (p:=f=(6:Int)) G (fun z=>?_) fun z=>?_
  ·
   rw[if_pos z] at N;refine SK ?_;exact MN ⟨_,_,G,H,N⟩
  rw[if_neg z] at N;refine RG (ST (q0j G G) G (AS G G (NL ?_)));exact MN ⟨_,_,G,H,N⟩
 rintro e w ⟨O,M,rfl,H,Y⟩;obtain rfl:=oI Y;refine TN ?_;refine q09 G (fun E=>?_) (fun E=>?_)
 ·
  subst E;rw[if_pos rfl] at h;refine SQ (RG (AS G G (AS G G (AS G G (NL (TN (RT ?_)))))));obtain rfl:=oI h;exact q1c G G G G H.ext G
 subst E;rw[if_neg l00] at h;refine SQ (RG (ST (q0j G G) G (AS G G (NL (TN ?_)))));refine CB (p:=f=(8:Int)) G (fun J=>?_) fun J=>?_
 ·
  rw[if_pos J] at h;refine SQ (RG (AS G G (AS G G (AS G G (NL (TN (RT ?_)))))));obtain rfl:=oI h;exact q1c G G G G H.ext G
 rw[if_neg J] at h;refine SQ (RG (ST (q0j G G) G (AS G G (NL (TN ?_)))));refine CB (p:=f=(9:Int)) G (fun K=>?_) fun K=>?_
 ·
  rw[if_pos K] at h;refine SQ (RG (AS G G (AS G G (AS G G (NL (TN (RT ?_)))))));obtain rfl:=oI h;exact q1c G G G G H.ext G
 rw[if_neg K] at h;refine SK (IB (TN (SQ (RG (AS G G (AS G G (AS G G (NL (TN (RT ?_))))))))));obtain rfl:=oI h;exact q1c G G G G H.ext G
theorem Y6O {u:Z01}{z:Value}{r:Bool}(h:Y3R u=some r):Ct Tryz.prog 89 [Value.agg #[I u.1,z,S u.2.2.1,I u.2.2.2.1,S u.2.2.2.2.1,I u.2.2.2.2.2]] (fun M=>SlR xrl89 M z u.2.1) (fun v M=>v=Value.bool r):=by
 refine Ct.of Tryz.func89 (enters Tryz.func89 Kr G) G G G ?_;intro w0 M0 H hp;have f:=hp;unfold Y3R at h;refine SQ (RG (q0I [_,_,_,_,_,_] H G G (q00 G) G ?_));intro Y w H;refine AS G G (NL (TN (SQ (SQ (RG (ST (q01 Tu89 G Ts3 Dc G) G (ST (XL H Ta3) G ?_)))))));refine NL (TN (BL (SQ (RG (ST (q0j G G) G (AS G G (NL (TN ?_))))))));refine CB (p:=u.1=(2:Int)) G (fun J=>?_) fun J=>?_
 ·
  rw[if_pos J] at h;refine SQ (RG (ST (q01 Tu89 G Ts87 Dc G) G (ST (XL H Ta87) G ?_)));refine ST (q0S Tu87 f G) G (ST (q0j G G) G (AS G G (NL (TN (RT ?_)))));obtain rfl:=oI h;exact q08 G G H.ext G
 rw[if_neg J] at h;refine SQ (SQ (RG (ST (q0j G G) G (AS G G (NL (TN ?_))))));obtain⟨o2,U,h⟩:=bnd h;refine q07 (fun e w =>∃(Z:Bool) (M:Mem),e=[(1,ptr Y 0),(11,Value.bool Z)]/\St w0 M0 M [.blk Y (.cells #[I u.1,z,S u.2.2.1,I u.2.2.2.1,S u.2.2.2.2.1,I u.2.2.2.2.2] 89)] w/\SlR xrl89 M z u.2.1/\some Z=some o2) [] ?_ ?_ (trivial)
 ·
  refine CB (p:=u.1=(3:Int)) G (fun K=>?_) fun K=>?_
  ·
   rw[if_pos K] at U;refine SK ?_;exact MN ⟨_,_,G,H,f,U⟩
  rw[if_neg K] at U;refine RG (ST (q0j G G) G (AS G G (NL ?_)));exact MN ⟨_,_,G,H,f,U⟩
 rintro e w ⟨Z,M,rfl,H,f,q6⟩;obtain rfl:=oI q6;refine TN ?_;refine q09 G (fun N=>?_) (fun N=>?_)
 ·
  subst N;rw[if_pos rfl] at h;refine SQ ?_;obtain⟨o8,V,h⟩:=bnd h;refine q07 (fun e w =>∃(O:Bool) (M:Mem),e=[(2,Value.bool O)]/\St w0 M0 M [] w/\some O=some o8) [] ?_ ?_ (trivial)
  ·
   refine RG (ST (q01 Tu89 G Ts87 Dc G) G (ST (XL H Ta87) G ?_));refine ST (q0S Tu87 f G) G ?_;by_cases E:(1:Int)<=(u.2.1.length:Int)
   ·
    rw[if_pos E] at V;refine DT E (q1a G G) G (MV G G (SG (q01 Tu89 G Ts87 Dc G) G G G (SG (XL H Ta87) G G G ?_)));refine SG (q0S Tu87 f G) G G G (SG (q1h G G) G G G (PT G G G (AS G G (NL ?_))));exact MN ⟨_,_,G,(H.pick (L':=[]) Kp),V⟩
   rw[if_neg E] at V;refine DF E (q1a G G) G (MV G G (q06 4 G G (PF G G G (AS G G (NL ?_)))));exact MN ⟨_,_,G,(H.pick (L':=[]) Kp),V⟩
  rintro e w ⟨O,M,rfl,H,a1⟩;obtain rfl:=oI a1;refine TN (RT ?_);obtain rfl:=oI h;exact q08 G G H.ext G
 subst N;rw[if_neg l00] at h;refine SK (IB (TN (SQ (RG (ST (q01 Tu89 G Ts87 Dc G) G (ST (XL H Ta87) G ?_))))));refine ST (q0S Tu87 f G) G (ST (q0j G G) G (AS G G (NL (TN (RT ?_)))));obtain rfl:=oI h;exact q08 G G H.ext G
set_option maxHeartbeats 4000000 in
theorem Y6z {self:Z01->Int->Option Int} (ih :∀{u:Z01} {U:Int} {E:Value} {r:Int},self u U=some r->Ct Tryz.prog 55 [Value.agg #[I u.1,E,S u.2.2.1,I u.2.2.2.1,S u.2.2.2.2.1,I u.2.2.2.2.2],I U] (fun M=>SlR xrl89 M E u.2.1) (fun v M=>v=I r)) {u:Z01} {U:Int} {E:Value} {r:Int} (h:Y3s self u U=some r):Ct Tryz.prog 55 [Value.agg #[I u.1,E,S u.2.2.1,I u.2.2.2.1,S u.2.2.2.2.1,I u.2.2.2.2.2],I U] (fun M=>SlR xrl89 M E u.2.1) (fun v M=>v=I r):=by
 refine Ct.of Tryz.func55 (enters Tryz.func55 Kr G) G G G ?_;intro w0 M0 H hp;have f:=hp;unfold Y3s at h;refine SQ (RG (q0I [_,_,_,_,_,_] H G G (q00 G) G ?_));intro K w H;refine AS G G (NL (TN (SQ ?_)));obtain⟨⟨b1,b2,b3⟩,bo,h⟩:=bnd h;try dsimp only at h
 refine RG (ST (q01 Tu89 G Ts3 Dc G) G (ST (XL H Ta3) G ?_));refine q03 H (Y6X bo) G trivial (q00 G) G ?_;intro c4 M w H aa hR;replace f:=f.mono aa;try dsimp only at hR
 obtain rfl:=hR;refine MV G G (ST (q0e G G) G (ST (q0e G G) G (ST (q0e G G) G (AS G G (AS G G (AS G G (NL (TN (SQ (BL (SQ (RG (MV G G (ST (q0H G G) G (AS G G (NL (TN ?_)))))))))))))))));refine CB (p:=(8:Int)<U) G (fun aq=>?_) fun aq=>?_
 ·
  rw[if_pos aq] at h;refine SQ (RG (AS G G (NL (TN (RT ?_)))));obtain rfl:=oI h;exact q08 G G H.ext G
 rw[if_neg aq] at h;refine SQ ?_;obtain⟨o6,e7,h⟩:=bnd h;refine q07 (fun e w =>∃(b8:Bool) (M:Mem),e=[(1,I U),(2,ptr K 0),(5,Value.bool b1),(6,Value.bool b2),(7,Value.bool b3),(21,Value.bool b8)]/\St w0 M0 M [.blk K (.cells #[I u.1,E,S u.2.2.1,I u.2.2.2.1,S u.2.2.2.2.1,I u.2.2.2.2.2] 89)] w/\SlR xrl89 M E u.2.1/\some b8=some o6) [] ?_ ?_ (trivial)
 ·
  refine RG (ST (q01 Tu89 G Ts3 Dc G) G (ST (XL H Ta3) G ?_));by_cases al:u.1<(1:Int)
  ·
   rw[if_pos al] at e7;refine DT al (q0n G G) G (MV G G (q06 3 G G (PT G G G (AS G G (NL ?_)))));exact MN ⟨_,_,G,H,f,e7⟩
  rw[if_neg al] at e7;refine DF al (q0n G G) G (MV G G (SG (q01 Tu89 G Ts3 Dc G) G G G (SG (XL H Ta3) G G G ?_)));refine SG (q0H G G) G G G (PF G G G (AS G G (NL ?_)));exact MN ⟨_,_,G,H,f,e7⟩
 rintro e w ⟨b8,M,rfl,H,f,bp⟩;obtain rfl:=oI bp;refine TN ?_;refine q09 G (fun ac=>?_) (fun ac=>?_)
 ·
  subst ac;rw[if_pos rfl] at h;refine SQ (RG (AS G G (NL (TN (RT ?_)))));obtain rfl:=oI h;exact q08 G G H.ext G
 subst ac;rw[if_neg l00] at h;refine SQ ?_;obtain⟨bg,bm,h⟩:=bnd h;refine RG (ST (q0a H G Km Ta89 Ts89 Kf) G ?_);refine q03 H (Y6O bm) G (f) (q00 G) G ?_;intro c5 M w H aa hR;replace f:=f.mono aa;obtain rfl:=hR;refine ST (q0y G) G (AS G G (NL (TN ?_)));refine q09 G (fun N=>?_) (fun N=>?_)
 ·
  replace N:bg=false:=by simpa using N
  subst N;rw[if_neg l00] at h;refine SQ (RG (AS G G (NL (TN (RT ?_)))));obtain rfl:=oI h;exact q08 G G H.ext G
 replace N:bg=true:=by simpa using N
 subst N;rw[if_pos rfl] at h;refine SQ ?_;obtain⟨bq,z,h⟩:=bnd h;refine q07 (fun e w =>∃(ar:Bool) (M:Mem),e=[(1,I U),(2,ptr K 0),(5,Value.bool b1),(6,Value.bool b2),(34,Value.bool ar)]/\St w0 M0 M [.blk K (.cells #[I u.1,E,S u.2.2.1,I u.2.2.2.1,S u.2.2.2.2.1,I u.2.2.2.2.2] 89)] w/\SlR xrl89 M E u.2.1/\some ar=some bq) [] ?_ ?_ (trivial)
 ·
  refine RG (MV G G (ST (q0y G) G (MV G G ?_)));rcases b1 with _|_
  ·
   rw[if_neg l00] at z;refine SG (q01 Tu89 G Ts9 Dc G) G G G (SG (XL H Ta9) G G G ?_);by_cases a1:u.2.2.1=[]
   ·
    rw[if_pos a1] at z;refine q0l (v' := .bool false) (q0z G G) (congrArg Value.bool (by rw[decide_eq_true a1];rfl)) (q0h G G G) G G ?_;refine PT G G G (MV G G (SG (q02 G) G G G (SG (q0y G) G G G (SG (q02 G) G G G ?_))));rcases b2 with _|_
    ·
     rw[if_neg l00] at z;refine SG (q01 Tu89 G Ts3 Dc G) G G G (SG (XL H Ta3) G G G ?_);by_cases a2:u.2.2.2.1=(0:Int)
     ·
      rw[if_pos a2] at z;refine q0l (v' := .bool false) (q0E G G) (congrArg Value.bool (by rw[decide_eq_true a2];rfl)) (q0h G G G) G G ?_;refine SG (q02 G) G G G (SG (q01 Tu89 G Ts9 Dc G) G G G (SG (XL H Ta9) G G G ?_));by_cases a3:u.2.2.2.2.1=[]
      ·
       rw[if_pos a3] at z;refine q0l (v' := .bool false) (q0z G G) (congrArg Value.bool (by rw[decide_eq_true a3];rfl)) (q0h G G G) G G ?_;refine SG (q0u G G) G G G (SG (q0t G G) G G G (PF G G G (MV G G (SG (q02 G) G G G (SG (q0y G) G G G (SG (q02 G) G G G ?_))))));rcases b3 with _|_
       ·
        rw[if_neg l00] at z;refine SG (q01 Tu89 G Ts3 Dc G) G G G (SG (XL H Ta3) G G G ?_);refine SG (q0E G G) G G G (SG (q0t G G) G G G (PF G G G (AS G G (NL ?_))));exact MN ⟨_,_,G,H,f,z⟩
       rw[if_pos rfl] at z;refine q06 3 G G (SG (q0u G G) G G G (PF G G G (AS G G (NL ?_))));exact MN ⟨_,_,G,H,f,z⟩
      rw[if_neg a3] at z;refine q0l (v' := .bool true) (q0z G G) (congrArg Value.bool (by rw[decide_eq_false a3];rfl)) (q0h G G G) G G ?_;refine SG (q0u G G) G G G (SG (q0t G G) G G G (PF G G G (MV G G (q06 7 G G (PT G G G (AS G G (NL ?_)))))));exact MN ⟨_,_,G,H,f,z⟩
     rw[if_neg a2] at z;refine q0l (v' := .bool true) (q0E G G) (congrArg Value.bool (by rw[decide_eq_false a2];rfl)) (q0h G G G) G G ?_;refine SG (q02 G) G G G (q06 3 G G (SG (q0t G G) G G G (SG (q0t G G) G G G (PF G G G (MV G G (q06 7 G G (PT G G G (AS G G (NL ?_)))))))));exact MN ⟨_,_,G,H,f,z⟩
    rw[if_pos rfl] at z;refine q06 8 G G (SG (q0u G G) G G G (PF G G G (MV G G (SG (q02 G) G G G (SG (q0y G) G G G (SG (q02 G) G G G ?_))))));rcases b3 with _|_
    ·
     rw[if_neg l00] at z;refine SG (q01 Tu89 G Ts3 Dc G) G G G (SG (XL H Ta3) G G G ?_);refine SG (q0E G G) G G G (SG (q0t G G) G G G (PF G G G (AS G G (NL ?_))));exact MN ⟨_,_,G,H,f,z⟩
    rw[if_pos rfl] at z;refine q06 3 G G (SG (q0u G G) G G G (PF G G G (AS G G (NL ?_))));exact MN ⟨_,_,G,H,f,z⟩
   rw[if_neg a1] at z;refine q0l (v' := .bool true) (q0z G G) (congrArg Value.bool (by rw[decide_eq_false a1];rfl)) (q0h G G G) G G ?_;refine PT G G G (MV G G (q06 12 G G (PT G G G (MV G G (q06 7 G G (PT G G G (AS G G (NL ?_))))))));exact MN ⟨_,_,G,H,f,z⟩
  rw[if_pos rfl] at z;refine q06 3 G G (PF G G G (MV G G (SG (q02 G) G G G (SG (q0y G) G G G (SG (q02 G) G G G ?_)))));rcases b2 with _|_
  ·
   rw[if_neg l00] at z;refine SG (q01 Tu89 G Ts3 Dc G) G G G (SG (XL H Ta3) G G G ?_);by_cases a4:u.2.2.2.1=(0:Int)
   ·
    rw[if_pos a4] at z;refine q0l (v' := .bool false) (q0E G G) (congrArg Value.bool (by rw[decide_eq_true a4];rfl)) (q0h G G G) G G ?_;refine SG (q02 G) G G G (SG (q01 Tu89 G Ts9 Dc G) G G G (SG (XL H Ta9) G G G ?_));by_cases a5:u.2.2.2.2.1=[]
    ·
     rw[if_pos a5] at z;refine q0l (v' := .bool false) (q0z G G) (congrArg Value.bool (by rw[decide_eq_true a5];rfl)) (q0h G G G) G G ?_;refine SG (q0u G G) G G G (SG (q0t G G) G G G (PF G G G (MV G G (SG (q02 G) G G G (SG (q0y G) G G G (SG (q02 G) G G G ?_))))));rcases b3 with _|_
     ·
      rw[if_neg l00] at z;refine SG (q01 Tu89 G Ts3 Dc G) G G G (SG (XL H Ta3) G G G ?_);refine SG (q0E G G) G G G (SG (q0t G G) G G G (PF G G G (AS G G (NL ?_))));exact MN ⟨_,_,G,H,f,z⟩
     rw[if_pos rfl] at z;refine q06 3 G G (SG (q0u G G) G G G (PF G G G (AS G G (NL ?_))));exact MN ⟨_,_,G,H,f,z⟩
    rw[if_neg a5] at z;refine q0l (v' := .bool true) (q0z G G) (congrArg Value.bool (by rw[decide_eq_false a5];rfl)) (q0h G G G) G G ?_;refine SG (q0u G G) G G G (SG (q0t G G) G G G (PF G G G (MV G G (q06 7 G G (PT G G G (AS G G (NL ?_)))))));exact MN ⟨_,_,G,H,f,z⟩
   rw[if_neg a4] at z;refine q0l (v' := .bool true) (q0E G G) (congrArg Value.bool (by rw[decide_eq_false a4];rfl)) (q0h G G G) G G ?_;refine SG (q02 G) G G G (q06 3 G G (SG (q0t G G) G G G (SG (q0t G G) G G G (PF G G G (MV G G (q06 7 G G (PT G G G (AS G G (NL ?_)))))))));exact MN ⟨_,_,G,H,f,z⟩
  rw[if_pos rfl] at z;refine q06 8 G G (SG (q0u G G) G G G (PF G G G (MV G G (SG (q02 G) G G G (SG (q0y G) G G G (SG (q02 G) G G G ?_))))));rcases b3 with _|_
  ·
   rw[if_neg l00] at z;refine SG (q01 Tu89 G Ts3 Dc G) G G G (SG (XL H Ta3) G G G ?_);refine SG (q0E G G) G G G (SG (q0t G G) G G G (PF G G G (AS G G (NL ?_))));exact MN ⟨_,_,G,H,f,z⟩
  rw[if_pos rfl] at z;refine q06 3 G G (SG (q0u G G) G G G (PF G G G (AS G G (NL ?_))));exact MN ⟨_,_,G,H,f,z⟩
 rintro e w ⟨ar,M,rfl,H,f,br⟩;obtain rfl:=oI br;refine TN ?_;refine q09 G (fun ad=>?_) (fun ad=>?_)
 ·
  subst ad;rw[if_pos rfl] at h;refine SQ (RG (AS G G (NL (TN (RT ?_)))));obtain rfl:=oI h;exact q08 G G H.ext G
 subst ad;rw[if_neg l00] at h;refine SQ ?_;obtain⟨bs,V,h⟩:=bnd h;refine q07 (fun e w =>∃(au:Bool) (M:Mem),e=[(1,I U),(2,ptr K 0),(6,Value.bool b2),(65,Value.bool au)]/\St w0 M0 M [.blk K (.cells #[I u.1,E,S u.2.2.1,I u.2.2.2.1,S u.2.2.2.2.1,I u.2.2.2.2.2] 89)] w/\SlR xrl89 M E u.2.1/\some au=some bs) [] ?_ ?_ (trivial)
 ·
  refine RG (MV G G (MV G G ?_));rcases b1 with _|_
  ·
   rw[if_neg l00] at V;refine q06 9 G G (PF G G G (AS G G (NL ?_)));exact MN ⟨_,_,G,H,f,V⟩
  rw[if_pos rfl] at V;refine SG (q01 Tu89 G Ts9 Dc G) G G G (SG (XL H Ta9) G G G ?_);by_cases a6:u.2.2.1=[]
  ·
   rw[if_pos a6] at V;refine DU a6 (q0N G G) G G G (SG (q02 G) G G G (q06 4 G G (SG (q0t G G) G G G (PT G G G (AS G G (NL ?_))))));exact MN ⟨_,_,G,H,f,V⟩
  rw[if_neg a6] at V;refine DG a6 (q0N G G) G G G (SG (q02 G) G G G (SG (q01 Tu89 G Ts9 Dc G) G G G (SG (XL H Ta9) G G G ?_)));refine SG (q0q Tu9 G) G G G (SG (q0H G G) G G G (SG (q0u G G) G G G (PT G G G (AS G G (NL ?_)))));exact MN ⟨_,_,G,H,f,V⟩
 rintro e w ⟨au,M,rfl,H,f,bt⟩;obtain rfl:=oI bt;refine TN ?_;refine q09 G (fun ae=>?_) (fun ae=>?_)
 ·
  subst ae;rw[if_pos rfl] at h;refine SQ (RG (AS G G (NL (TN (RT ?_)))));obtain rfl:=oI h;exact q08 G G H.ext G
 subst ae;rw[if_neg l00] at h;refine SQ ?_;obtain⟨bu,Y,h⟩:=bnd h;refine q07 (fun e w =>∃(av:Bool) (M:Mem),e=[(1,I U),(2,ptr K 0),(78,Value.bool av)]/\St w0 M0 M [.blk K (.cells #[I u.1,E,S u.2.2.1,I u.2.2.2.1,S u.2.2.2.2.1,I u.2.2.2.2.2] 89)] w/\SlR xrl89 M E u.2.1/\some av=some bu) [] ?_ ?_ (trivial)
 ·
  refine RG (MV G G (MV G G ?_));rcases b2 with _|_
  ·
   rw[if_neg l00] at Y;refine q06 8 G G (PF G G G (AS G G (NL ?_)));exact MN ⟨_,_,G,H,f,Y⟩
  rw[if_pos rfl] at Y;refine SG (q01 Tu89 G Ts3 Dc G) G G G (SG (XL H Ta3) G G G ?_);by_cases a7:u.2.2.2.1<(1:Int)
  ·
   rw[if_pos a7] at Y;refine DU a7 (q0n G G) G G G (SG (q02 G) G G G (q06 3 G G (SG (q0t G G) G G G (PT G G G (AS G G (NL ?_))))));exact MN ⟨_,_,G,H,f,Y⟩
  rw[if_neg a7] at Y;refine DG a7 (q0n G G) G G G (SG (q02 G) G G G (SG (q01 Tu89 G Ts3 Dc G) G G G (SG (XL H Ta3) G G G ?_)));refine SG (q0H G G) G G G (SG (q0u G G) G G G (PT G G G (AS G G (NL ?_))));exact MN ⟨_,_,G,H,f,Y⟩
 rintro e w ⟨av,M,rfl,H,f,bv⟩;obtain rfl:=oI bv;refine TN ?_;refine q09 G (fun ah=>?_) (fun ah=>?_)
 ·
  subst ah;rw[if_pos rfl] at h;refine SQ (RG (AS G G (NL (TN (RT ?_)))));obtain rfl:=oI h;exact q08 G G H.ext G
 subst ah;rw[if_neg l00] at h;refine SQ (RG (ST (q01 Tu89 G Ts9 Dc G) G (ST (XL H Ta9) G ?_)));refine ST (q0q Tu9 G) G (ST (q0H G G) G (AS G G (NL (TN ?_))));refine CB (p:=(200:Int)<(u.2.2.2.2.1.length:Int)) G (fun ai=>?_) fun ai=>?_
 ·
  rw[if_pos ai] at h;refine SQ (RG (AS G G (NL (TN (RT ?_)))));obtain rfl:=oI h;exact q08 G G H.ext G
 rw[if_neg ai] at h;refine SQ ?_;obtain⟨bw,am,h⟩:=bnd h;refine q07 (fun e w =>∃(aw:Bool) (M:Mem),e=[(1,I U),(2,ptr K 0),(95,Value.bool aw)]/\St w0 M0 M [.blk K (.cells #[I u.1,E,S u.2.2.1,I u.2.2.2.1,S u.2.2.2.2.1,I u.2.2.2.2.2] 89)] w/\SlR xrl89 M E u.2.1/\some aw=some bw) [] ?_ ?_ (trivial)
 ·
  refine RG (ST (q01 Tu89 G Ts3 Dc G) G (ST (XL H Ta3) G ?_));by_cases a8:u.2.2.2.2.2<(0:Int)
  ·
   rw[if_pos a8] at am;refine DT a8 (q0n G G) G (MV G G (q06 3 G G (PT G G G (AS G G (NL ?_)))));exact MN ⟨_,_,G,H,f,am⟩
  rw[if_neg a8] at am;refine DF a8 (q0n G G) G (MV G G (SG (q01 Tu89 G Ts3 Dc G) G G G (SG (XL H Ta3) G G G ?_)));refine SG (q0H G G) G G G (PF G G G (AS G G (NL ?_)));exact MN ⟨_,_,G,H,f,am⟩
 rintro e w ⟨aw,M,rfl,H,f,bx⟩;obtain rfl:=oI bx;refine TN ?_;refine q09 G (fun aj=>?_) (fun aj=>?_)
 ·
  subst aj;rw[if_pos rfl] at h;refine SQ (RG (AS G G (NL (TN (RT ?_)))));obtain rfl:=oI h;exact q08 G G H.ext G
 subst aj;rw[if_neg l00] at h;refine SK (IB (TN (SQ (SQ (RG (ST (q01 Tu89 G Ts87 Dc G) G (ST (XL H Ta87) G ?_)))))));refine ST (q0S Tu87 f G) G (MV G G (NL (TN ?_)));obtain⟨bh,J,h⟩:=bnd h;refine q07 (fun e w =>∃  (M:Mem),e=[]/\St w0 M0 M [] w/\some (.inl ())=some bh) [] ?_ ?_ (trivial)
 ·
  refine BL ?_;refine q0p (fun m e w =>∃(an:Int) (M:Mem),e=[(1,I U),(105,E),(106,I (u.2.1.length:Int)),(107,I an)]/\St w0 M0 M [] w/\SlR xrl89 M E u.2.1/\Y1w self u U m an=some bh) FU [(1,_),(105,_),(106,_),(107,_)] ⟨rfl,rfl,rfl,rfl,trivial⟩ ⟨_,_,rfl,(H.pick (L':=[]) Kp),f,J⟩ ?_;rintro ax e w ⟨an,M,rfl,H,f,J⟩;rcases ax with _|ax
  · rw[Y1w] at J;cases J
  rw[Y1w] at J;refine SQ (RG (ST (q0n G G) G (NL (TN (SQ ?_)))));refine CB (p:=an<(u.2.1.length:Int)) G (fun ak=>?_) fun ak=>?_
  ·
   rw[if_pos ak] at J;refine SK (TN (SQ (BL (SQ ?_))));obtain⟨Z,ba,J⟩:=bnd J;obtain⟨c0,c2,bb,bc,bd,a9⟩:=f.atC ba;obtain⟨ay,az,b0,b4,b5,b6⟩:=bb;replace a9:ay=Z.out.1/\SlR xrl89 _ (hv az) Z.out.2.1/\b0=Z.out.2.2.1/\b4=Z.out.2.2.2.1/\b5=Z.out.2.2.2.2.1/\b6=Z.out.2.2.2.2.2:=run88 a9;obtain⟨rfl,a0,rfl,rfl,rfl,rfl⟩:=a9;refine RG (ST (q0w bc Tu87 Ts89 G G) G (ST (q0C H G bd Ta89 Ts89 Kf) G ?_));refine q0f [_,_,_,_,_,_] H Tz89 G (q00 G) G ?_;intro c6 w H;refine q05 [_,_,_,_,_,_] H G G G Ku Ts89 G Kf (by simp only[l0f,l0j,(a0).one.2];rfl) (q00 G) ?_;intro w H;refine NL (TN (SQ ?_));obtain⟨c7,be,J⟩:=bnd J;obtain⟨bi,bn,J⟩:=bnd J;refine RG (ST (q0a H G Km Ta89 Ts89 Kf) G ?_);refine MV G G (ST (q0b G G be) G (q03 H (ih bn) G (a0) (q00 G) G ?_));intro c3 M w H aa hR;replace f:=f.mono aa;obtain rfl:=hR;refine AS G G (NL (TN (SQ (RG (MV G G (ST (q0E G G) G (NL (TN ?_))))))));refine q09 G (fun O=>?_) (fun O=>?_)
   ·
    replace O :¬(bi=(0:Int)):=of_not_decide O;rw[if_neg O] at J;refine SQ (RG (MV G G (AS G G (NL (TN (RT ?_))))));obtain rfl:=oI J;try dsimp only at h
    obtain rfl:=oI h;exact q08 G G H.ext G
   replace O:bi=(0:Int):=of_not_decide' O;rw[if_pos O] at J;refine SK (IB (TN ?_));obtain⟨c8,bf,J⟩:=bnd J;refine RG (ST (q0b G G bf) G (MV G G (NL ?_)));exact AG ax ⟨_,_,G,(H.pick (L':=[]) Kp),f,J⟩ (l04 _)
  rw[if_neg ak] at J;refine q0o (q04 (q04 (q0g ?_)));exact MN ⟨_,G,H,J⟩
 rintro e w ⟨M,rfl,H,bz⟩;obtain rfl:=oI bz;try dsimp only at h
 refine TN (SQ (RG (AS G G (NL (TN (RT ?_))))));obtain rfl:=oI h;exact q08 G G H.ext G
theorem Y5J :∀(m:Nat) {f:Z01} {z:Int} {u:Value} {r:Int},Y1C m f z=some r->Ct Tryz.prog 55 [Value.agg #[I f.1,u,S f.2.2.1,I f.2.2.2.1,S f.2.2.2.2.1,I f.2.2.2.2.2],I z] (fun M=>SlR xrl89 M u f.2.1) (fun v M=>v=I r)
 | 0,_,_,_,_,h=>by rw[Y1C] at h;cases h
 | m+1,_,_,_,_,h=>Y6z (fun h=>Y5J m h) (by rw[Y1C] at h;exact h)
theorem Y6Y {f:Z01}{z:Int}{u:Value}{r:Int}(h:Y68 f z=some r):Ct Tryz.prog 55 [Value.agg #[I f.1,u,S f.2.2.1,I f.2.2.2.1,S f.2.2.2.2.1,I f.2.2.2.2.2],I z] (fun M=>SlR xrl89 M u f.2.1) (fun v M=>v=I r):=Y5J FU h
theorem Y6Z {f:Z05}{p1:Int}{J:Value}{K:Value}{N:Value}{r:Int}(h:Y4t f p1=some r):Ct Tryz.prog 33 [Value.agg #[I f.1,I f.2.1,J,S f.2.2.2.1,I f.2.2.2.2.1,S f.2.2.2.2.2.1,I f.2.2.2.2.2.2.1,K,N,I f.2.2.2.2.2.2.2.2.2.1,S f.2.2.2.2.2.2.2.2.2.2.1,S f.2.2.2.2.2.2.2.2.2.2.2.1,I f.2.2.2.2.2.2.2.2.2.2.2.2],I p1] (fun M=>SlR xrl89 M J f.2.2.1/\SlR xrl91 M K f.2.2.2.2.2.2.2.1/\SlR xrl91 M N f.2.2.2.2.2.2.2.2.1) (fun v M=>v=I r):=by
 refine Ct.of Tryz.func33 (enters Tryz.func33 Kr G) G G G ?_;intro w0 M0 H hp;obtain⟨u,z,E⟩:=hp;unfold Y4t at h;refine SQ (RG (q0I [_,_,_,_,_,_,_,_,_,_,_,_,_] H G G (q00 G) G ?_));intro a1 w H;refine AS G G (NL (TN (SQ (BL (SQ (RG (MV G G (ST (q0H G G) G (AS G G (NL (TN ?_)))))))))));refine CB (p:=(8:Int)<p1) G (fun a3=>?_) fun a3=>?_
 ·
  rw[if_pos a3] at h;refine SQ (RG (AS G G (NL (TN (RT ?_)))));obtain rfl:=oI h;exact q08 G G H.ext G
 rw[if_neg a3] at h;refine SQ ?_;obtain⟨o2,e3,h⟩:=bnd h;refine q07 (fun e w =>∃(b4:Bool) (M:Mem),e=[(2,ptr a1 0),(8,Value.bool b4)]/\St w0 M0 M [.blk a1 (.cells #[I f.1,I f.2.1,J,S f.2.2.2.1,I f.2.2.2.2.1,S f.2.2.2.2.2.1,I f.2.2.2.2.2.2.1,K,N,I f.2.2.2.2.2.2.2.2.2.1,S f.2.2.2.2.2.2.2.2.2.2.1,S f.2.2.2.2.2.2.2.2.2.2.2.1,I f.2.2.2.2.2.2.2.2.2.2.2.2] 91)] w/\SlR xrl89 M J f.2.2.1/\SlR xrl91 M K f.2.2.2.2.2.2.2.1/\SlR xrl91 M N f.2.2.2.2.2.2.2.2.1/\some b4=some o2) [] ?_ ?_ (trivial)
 ·
  refine RG (ST (q01 Tu91 G Ts3 Dc G) G (ST (XL H Ta3) G ?_));by_cases a2:f.1<(1:Int)
  ·
   rw[if_pos a2] at e3;refine DT a2 (q0n G G) G (MV G G (q06 3 G G (PT G G G (AS G G (NL ?_)))));exact MN ⟨_,_,G,H,u,z,E,e3⟩
  rw[if_neg a2] at e3;refine DF a2 (q0n G G) G (MV G G (SG (q01 Tu91 G Ts3 Dc G) G G G (SG (XL H Ta3) G G G ?_)));refine SG (q0H G G) G G G (PF G G G (AS G G (NL ?_)));exact MN ⟨_,_,G,H,u,z,E,e3⟩
 rintro e w ⟨b4,M,rfl,H,u,z,E,q6⟩;obtain rfl:=oI q6;refine TN ?_;refine q09 G (fun a4=>?_) (fun a4=>?_)
 ·
  subst a4;rw[if_pos rfl] at h;refine SQ (RG (AS G G (NL (TN (RT ?_)))));obtain rfl:=oI h;exact q08 G G H.ext G
 subst a4;rw[if_neg l00] at h;refine SQ (RG (ST (q01 Tu91 G Ts3 Dc G) G (ST (XL H Ta3) G ?_)));refine ST (q0E G G) G (AS G G (NL (TN ?_)));refine q09 G (fun U=>?_) (fun U=>?_)
 ·
  replace U :¬(f.1=(1:Int)):=of_not_decide U;rw[if_neg U] at h;refine SQ ?_;obtain⟨n9,a9,h⟩:=bnd h;refine RG (ST (q0a H G Km Ta91 Ts91 Kf) G ?_);refine q03 H (Y6N a9) G ⟨u,z,E⟩ (q00 G) G ?_;intro aj M w H ac hR;obtain rfl:=hR;refine AS G G (NL (TN (RT ?_)));obtain rfl:=oI h;exact q08 G G H.ext G
 replace U:f.1=(1:Int):=of_not_decide' U;rw[if_pos U] at h;refine SQ ?_;obtain⟨ad,O,h⟩:=bnd h;refine q07 (fun e w =>∃(a5:Bool) (M:Mem),e=[(2,ptr a1 0),(23,Value.bool a5)]/\St w0 M0 M [.blk a1 (.cells #[I f.1,I f.2.1,J,S f.2.2.2.1,I f.2.2.2.2.1,S f.2.2.2.2.2.1,I f.2.2.2.2.2.2.1,K,N,I f.2.2.2.2.2.2.2.2.2.1,S f.2.2.2.2.2.2.2.2.2.2.1,S f.2.2.2.2.2.2.2.2.2.2.2.1,I f.2.2.2.2.2.2.2.2.2.2.2.2] 91)] w/\SlR xrl89 M J f.2.2.1/\SlR xrl91 M K f.2.2.2.2.2.2.2.1/\SlR xrl91 M N f.2.2.2.2.2.2.2.2.1/\some a5=some ad) [] ?_ ?_ (trivial)
 ·
  refine RG (ST (q01 Tu91 G Ts3 Dc G) G (ST (XL H Ta3) G ?_));by_cases V:f.2.2.2.2.2.2.2.2.2.1=(0:Int)
  ·
   rw[if_pos V] at O;refine q0l (v' := .bool false) (q0E G G) (congrArg Value.bool (by rw[decide_eq_true V];rfl)) (q00 G) G G ?_;refine MV G G (SG (q01 Tu91 G Ts9 Dc G) G G G (SG (XL H Ta9) G G G ?_));by_cases Y:f.2.2.2.2.2.2.2.2.2.2.1=[]
   ·
    rw[if_pos Y] at O;refine q0l (v' := .bool false) (q0z G G) (congrArg Value.bool (by rw[decide_eq_true Y];rfl)) (q0h G G G) G G ?_;refine PF G G G (MV G G (SG (q01 Tu91 G Ts9 Dc G) G G G (SG (XL H Ta9) G G G ?_)));by_cases Z:f.2.2.2.2.2.2.2.2.2.2.2.1=[]
    ·
     rw[if_pos Z] at O;refine q0l (v' := .bool false) (q0z G G) (congrArg Value.bool (by rw[decide_eq_true Z];rfl)) (q0h G G G) G G ?_;refine PF G G G (MV G G (SG (q01 Tu91 G Ts3 Dc G) G G G (SG (XL H Ta3) G G G ?_)));refine SG (q0E G G) G G G (PF G G G (AS G G (NL ?_)));exact MN ⟨_,_,G,H,u,z,E,O⟩
    rw[if_neg Z] at O;refine q0l (v' := .bool true) (q0z G G) (congrArg Value.bool (by rw[decide_eq_false Z];rfl)) (q0h G G G) G G ?_;refine PF G G G (MV G G (q06 3 G G (PT G G G (AS G G (NL ?_)))));exact MN ⟨_,_,G,H,u,z,E,O⟩
   rw[if_neg Y] at O;refine q0l (v' := .bool true) (q0z G G) (congrArg Value.bool (by rw[decide_eq_false Y];rfl)) (q0h G G G) G G ?_;refine PF G G G (MV G G (q06 3 G G (PT G G G (MV G G (q06 3 G G (PT G G G (AS G G (NL ?_))))))));exact MN ⟨_,_,G,H,u,z,E,O⟩
  rw[if_neg V] at O;refine q0l (v' := .bool true) (q0E G G) (congrArg Value.bool (by rw[decide_eq_false V];rfl)) (q00 G) G G ?_;refine MV G G (q06 3 G G (PT G G G (MV G G (q06 3 G G (PT G G G (MV G G (q06 3 G G (PT G G G (AS G G (NL ?_))))))))));exact MN ⟨_,_,G,H,u,z,E,O⟩
 rintro e w ⟨a5,M,rfl,H,u,z,E,ae⟩;obtain rfl:=oI ae;refine TN ?_;refine q09 G (fun a0=>?_) (fun a0=>?_)
 ·
  subst a0;rw[if_pos rfl] at h;refine SQ (RG (AS G G (NL (TN (RT ?_)))));obtain rfl:=oI h;exact q08 G G H.ext G
 subst a0;rw[if_neg l00] at h;refine SK (IB (TN (SQ ?_)));obtain⟨ak,aa,h⟩:=bnd h;refine RG (ST (q01 Tu91 G Ts89 Dc G) G (ST (q1n (us:=[_,_,_,_,_,_]) H G Km Ta89 Ts89 G G) G ?_));refine q03 H (Y6Y aa) G (u) (q00 G) G ?_;intro al M w H ac hR;obtain rfl:=hR;refine AS G G (NL (TN (RT ?_)));obtain rfl:=oI h;exact q08 G G H.ext G
theorem Y05 {f:Z0a}{r:Bool}(h:Y00 f=some r):Ct Tryz.prog 15 [Value.agg #[I f.1,I f.2]] (fun M=>True) (fun v M=>v=Value.bool r):=by
 refine Ct.of Tryz.func15 (enters Tryz.func15 Kr G) G G G ?_;intro z M0 H hp;unfold Y00 at h;refine SQ (RG (q0I [_,_] H G G (q00 G) G ?_));intro u w H;refine AS G G (NL (TN (SQ (RG (ST (q01 Tu33 G Ts3 Dc G) G (ST (XL H Ta3) G ?_))))));refine ST (q0E G G) G (AS G G (NL (TN (RT ?_))));obtain rfl:=oI h;exact q08 G G H.ext G
theorem Y0i  {r:Z0a} (h:Y0f=some r):Ct Tryz.prog 16 [] (fun M=>True) (fun v M=>v=Value.agg #[I r.1,I r.2]):=by
 refine Ct.of Tryz.func16 (enters Tryz.func16 Kr G) G G G ?_;intro u M0 H hp;unfold Y0f at h;refine SQ (RG (q0f [_,_] H Tz33 G (q00 G) G ?_));intro f w H;refine NL (TN (SQ (RG (ST (q0A [I 0,I 0] Tu33 Tz33 (xplaces33 Tu33) G G) G (q05 [_,_] H G G G Ku Ts33 G Kf Kf (q00 G) ?_)))));intro w H;refine NL (TN (RT ?_));obtain rfl:=oI h;exact q08 G ⟨_,G,H.loadAgg Km Ta33 Ts33 Kf⟩ H.ext G
theorem Y5q {self:(List BT90)->Int->Int->Unit->Option Z0E}(ih :∀{p0:List BT90} {p1:Int} {p2:Int} {p3:Unit} {Z:Value} {f:Nat} {u:Nat} {r:Z0E},self p0 p1 p2 p3=some r->CtX Tryz.prog 32 [Z,I p1,ptr f 0,ptr u 0] [.blk f (.cells #[I p2] 3), .blk u (.cells #[(Value.func (.func 32) #[] #[ptr f 0,ptr u 0])] 93)] (fun M=>SlR xrl91 M Z p0) (fun v M its=>v=Value.agg #[I r.1.1,I r.1.2]/\its=[.blk f (.cells #[I r.2.1] 3), .blk u (.cells #[(Value.func (.func 32) #[] #[ptr f 0,ptr u 0])] 93)])){p0:List BT90}{p1:Int}{p2:Int}{p3:Unit}{Z:Value}{f:Nat}{u:Nat}{r:Z0E}(h:Y2v self p0 p1 p2 p3=some r):CtX Tryz.prog 32 [Z,I p1,ptr f 0,ptr u 0] [.blk f (.cells #[I p2] 3), .blk u (.cells #[(Value.func (.func 32) #[] #[ptr f 0,ptr u 0])] 93)] (fun M=>SlR xrl91 M Z p0) (fun v M its=>v=Value.agg #[I r.1.1,I r.1.2]/\its=[.blk f (.cells #[I r.2.1] 3), .blk u (.cells #[(Value.func (.func 32) #[] #[ptr f 0,ptr u 0])] 93)]):=by
 refine q0T Tryz.func32 (enters Tryz.func32 Kr G) G G G ?_;intro w0 M0 H hp;have K:=hp;unfold Y2v at h;refine SQ (RG (q0f [_,_] H Tz33 G (q00 G) G ?_));intro Y w H;refine NL (TN (SQ (SQ (RG (MV G G (ST (q0S Tu31 K G) G (MV G G (NL (TN ?_)))))))));obtain⟨o1,E,h⟩:=bnd h;refine q07 (fun e w =>∃(n3:Int) (n4:Int) (n5:Int) (M:Mem),e=[(6,ptr Y 0)]/\StX (feet [.blk f (.cells #[I p2] 3), .blk u (.cells #[(Value.func (.func 32) #[] #[ptr f 0,ptr u 0])] 93)]) w0 M0 M [.blk Y (.cells #[I n3,I n4] 33), .blk f (.cells #[I n5] 3), .blk u (.cells #[(Value.func (.func 32) #[] #[ptr f 0,ptr u 0])] 93)] w/\some (.inl (n3,n4,n5))=some o1) [] ?_ ?_ (trivial)
 ·
  refine BL ?_;refine q0p (fun m e w =>∃(n6:Int) (n7:Int) (n8:Int) (n9:Int) (M:Mem),e=[(1,I p1),(2,ptr f 0),(3,ptr u 0),(6,ptr Y 0),(13,Z),(14,I (p0.length:Int)),(15,I n9)]/\StX (feet [.blk f (.cells #[I p2] 3), .blk u (.cells #[(Value.func (.func 32) #[] #[ptr f 0,ptr u 0])] 93)]) w0 M0 M [.blk f (.cells #[I n6] 3), .blk u (.cells #[(Value.func (.func 32) #[] #[ptr f 0,ptr u 0])] 93), .blk Y (.cells #[I n7,I n8] 33)] w/\SlR xrl91 M Z p0/\Y0h self p0 p1 m n6 n7 n8 n9=some o1) FU [(1,_),(2,_),(3,_),(6,_),(13,_),(14,_),(15,_)] ⟨rfl,rfl,rfl,rfl,rfl,rfl,rfl,trivial⟩ ⟨_,_,_,_,_,rfl,(H.pick (L':=[.blk f (.cells #[I p2] 3), .blk u (.cells #[(Value.func (.func 32) #[] #[ptr f 0,ptr u 0])] 93), .blk Y (.cells #[I 0,I 0] 33)]) Kp),K,E⟩ ?_;rintro an e w ⟨n6,n7,n8,n9,M,rfl,H,K,E⟩;rcases an with _|an
  · rw[Y0h] at E;cases E
  rw[Y0h] at E;refine SQ (RG (ST (q0n G G) G (NL (TN (SQ ?_)))));refine CB (p:=n9<(p0.length:Int)) G (fun a6=>?_) fun a6=>?_
  ·
   rw[if_pos a6] at E;refine SK (TN (SQ (BL (SQ ?_))));obtain⟨J,b0,E⟩:=bnd E;obtain⟨c6,c9,bo,bp,bq,a7⟩:=K.atC b0;obtain⟨b1,b2,b3,b4,b5,b6,b7,ac,ad,b8,ao,ap,aq⟩:=bo;replace a7:b1=J.out.1/\b2=J.out.2.1/\SlR xrl89 _ (hv b3) J.out.2.2.1/\b4=J.out.2.2.2.1/\b5=J.out.2.2.2.2.1/\b6=J.out.2.2.2.2.2.1/\b7=J.out.2.2.2.2.2.2.1/\SlR xrl91 _ (hv ac) J.out.2.2.2.2.2.2.2.1/\SlR xrl91 _ (hv ad) J.out.2.2.2.2.2.2.2.2.1/\b8=J.out.2.2.2.2.2.2.2.2.2.1/\ao=J.out.2.2.2.2.2.2.2.2.2.2.1/\ap=J.out.2.2.2.2.2.2.2.2.2.2.2.1/\aq=J.out.2.2.2.2.2.2.2.2.2.2.2.2:=run90 a7;obtain⟨rfl,rfl,a4,rfl,rfl,rfl,rfl,O,U,rfl,rfl,rfl,rfl⟩:=a7;refine RG (ST (q0w bp Tu31 Ts91 G G) G (ST (q0C H G bq Ta91 Ts91 Kf) G ?_));refine q0f [_,_,_,_,_,_,_,_,_,_,_,_,_] H Tz91 G (q00 G) G ?_;intro ca w H;refine q05 [_,_,_,_,_,_,_,_,_,_,_,_,_] H G G G Ku Ts91 G Kf (by simp only[l0f,l0j,(a4).one.2,(O).one.2,(U).one.2];rfl) (q00 G) ?_;intro w H;refine NL (TN (SQ (SQ (RG (ST (XL H Ta3) G ?_)))));refine ST (q0j G G) G (NL (TN ?_));refine CB (p:=n6=(100:Int)) G (fun a8=>?_) fun a8=>?_
   ·
    rw[if_pos a8] at E;refine SQ ?_;obtain⟨⟨cb,cc⟩,br,E⟩:=bnd E;try dsimp only at E
    refine RG (q03 H (Y01 br) G trivial (q00 G) G ?_);intro cd M w H N hR;try dsimp only at hR
    obtain rfl:=hR;refine q05 [_,_] H G G G Ku Ts33 G Kf Kf (q00 G) ?_;intro w H;refine NL (TN (RT ?_));obtain rfl:=oI E;try dsimp only at h
    obtain rfl:=oI h;exact q0x (its:=[.blk f (.cells #[I n6] 3), .blk u (.cells #[(Value.func (.func 32) #[] #[ptr f 0,ptr u 0])] 93)]) G ⟨_,G,H.loadAgg Km Ta33 Ts33 Kf⟩ H Kp ⟨G,G⟩
   rw[if_neg a8] at E;refine SK (TN (SQ (SQ ?_)));obtain⟨bf,bs,E⟩:=bnd E;refine RG (ST (q0a H G Km Ta91 Ts91 Kf) G ?_);refine MV G G (q03 H (Y6Z bs) G ⟨a4,O,U⟩ (q00 G) G ?_);intro ce M w H N hR;replace K:=K.mono N;replace O:=O.mono N;replace U:=U.mono N;obtain rfl:=hR;refine AS G G (NL (TN (SQ (RG (MV G G (ST (q0E G G) G (NL (TN ?_))))))));refine q09 G (fun a0=>?_) (fun a0=>?_)
   ·
    replace a0 :¬(bf=(0:Int)):=of_not_decide a0;rw[if_neg a0] at E;refine SQ ?_;obtain⟨⟨cf,cg⟩,bt,E⟩:=bnd E;try dsimp only at E
    refine RG (MV G G (ST (XL H Ta3) G ?_));refine q03 H (Y01 bt) G trivial (q00 G) G ?_;intro ch M w H N hR;try dsimp only at hR
    obtain rfl:=hR;refine q05 [_,_] H G G G Ku Ts33 G Kf Kf (q00 G) ?_;intro w H;refine NL (TN (RT ?_));obtain rfl:=oI E;try dsimp only at h
    obtain rfl:=oI h;exact q0x (its:=[.blk f (.cells #[I n6] 3), .blk u (.cells #[(Value.func (.func 32) #[] #[ptr f 0,ptr u 0])] 93)]) G ⟨_,G,H.loadAgg Km Ta33 Ts33 Kf⟩ H Kp ⟨G,G⟩
   replace a0:bf=(0:Int):=of_not_decide' a0;rw[if_pos a0] at E;refine SK (TN (SQ ?_));obtain⟨c1,b9,E⟩:=bnd E;refine RG (ST (XL H Ta3) G ?_);refine ST (q0b G G b9) G (q05 [_] H G G G Ku Ts3 G Kf Kf (q00 G) ?_);intro w H;refine NL (TN (SQ (RG (ST (q01 Tu91 G Ts31 Dc G) G (ST (XL H Ta31) G ?_)))));refine ST (q01 Tu91 G Ts31 Dc G) G (ST (XL H Ta31) G ?_);refine q0Q (enc:=xrl31.enc) xty95 ([ac,ad]:List Hd) H (fun _=>G) G Kr G G G (q00 G) G ?_;intro bg M w H N V;replace K:=K.mono N;replace O:=O.mono N;replace U:=U.mono N;replace V:=q1q (R:=xrl31) (l:=([J.out.2.2.2.2.2.2.2.1,J.out.2.2.2.2.2.2.2.2.1]:List (List BT90))) V ⟨O,U,trivial⟩;refine ST (q0S Tu95 V G) G (MV G G (NL (TN ?_)));obtain⟨bh,z,E⟩:=bnd E;refine q07 (fun e w =>∃(ar:Int) (au:Int) (av:Int) (M:Mem),e=[(1,I p1),(2,ptr f 0),(3,ptr u 0),(6,ptr Y 0),(13,Z),(14,I (p0.length:Int)),(15,I n9)]/\StX (feet [.blk f (.cells #[I p2] 3), .blk u (.cells #[(Value.func (.func 32) #[] #[ptr f 0,ptr u 0])] 93)]) w0 M0 M [.blk f (.cells #[I ar] 3), .blk u (.cells #[(Value.func (.func 32) #[] #[ptr f 0,ptr u 0])] 93), .blk Y (.cells #[I au,I av] 33)] w/\SlR xrl91 M Z p0/\some (.inl (ar,au,av))=some bh) [] ?_ ?_ (trivial)
   ·
    refine BL ?_;refine q0p (fun m e w =>∃(ae:Int) (ah:Int) (ai:Int) (aj:Int) (M:Mem),e=[(1,I p1),(2,ptr f 0),(3,ptr u 0),(6,ptr Y 0),(13,Z),(14,I (p0.length:Int)),(15,I n9),(36,bg),(37,I (([J.out.2.2.2.2.2.2.2.1,J.out.2.2.2.2.2.2.2.2.1]:List (List BT90)).length:Int)),(38,I aj)]/\StX (feet [.blk f (.cells #[I p2] 3), .blk u (.cells #[(Value.func (.func 32) #[] #[ptr f 0,ptr u 0])] 93)]) w0 M0 M [.blk f (.cells #[I ae] 3), .blk u (.cells #[(Value.func (.func 32) #[] #[ptr f 0,ptr u 0])] 93), .blk Y (.cells #[I ah,I ai] 33)] w/\SlR xrl91 M Z p0/\SlR xrl31 M bg ([J.out.2.2.2.2.2.2.2.1,J.out.2.2.2.2.2.2.2.2.1]:List (List BT90))/\Y0F self p1 J m ae ah ai aj=some bh) FU [(1,_),(2,_),(3,_),(6,_),(13,_),(14,_),(15,_),(36,_),(37,_),(38,_)] ⟨rfl,rfl,rfl,rfl,rfl,rfl,rfl,rfl,rfl,rfl,trivial⟩ ⟨_,_,_,_,_,rfl,(H.pick (L':=[.blk f (.cells #[I c1] 3), .blk u (.cells #[(Value.func (.func 32) #[] #[ptr f 0,ptr u 0])] 93), .blk Y (.cells #[I n7,I n8] 33)]) Kp),K,V,z⟩ ?_;rintro aw e w ⟨ae,ah,ai,aj,M,rfl,H,K,V,z⟩;rcases aw with _|aw
    · rw[Y0F] at z;cases z
    rw[Y0F] at z;refine SQ (RG (ST (q0n G G) G (NL (TN (SQ ?_)))));refine CB (p:=aj<(([J.out.2.2.2.2.2.2.2.1,J.out.2.2.2.2.2.2.2.2.1]:List (List BT90)).length:Int)) G (fun a9=>?_) fun a9=>?_
    ·
     rw[if_pos a9] at z;refine SK (TN (SQ (BL (SQ ?_))));obtain⟨c2,ba,z⟩:=bnd z;obtain⟨c7,c3,bb,bu,bv,aa⟩:=V.atC ba;replace aa:SlR xrl91 _ (hv bb) c2:=aa;have ax:=aa;refine RG (ST (q0w bu Tu95 Ts31 G G) G (ST (q0m H G (bv.at (j:=0) G) Ta31) G (AS G G (NL (TN (SQ ?_))))));obtain⟨ci,bc,z⟩:=bnd z;obtain⟨⟨⟨cj,ck⟩,bi,c3⟩,bw,z⟩:=bnd z;try dsimp only at z
     refine RG (ST (XL H Tryz.isAgg93) G ?_);refine MV G G (MV G G (ST (q0b G G bc) G (XV (cap:=[ptr f 0,ptr u 0]) (A:=[.blk f (.cells #[I ae] 3), .blk u (.cells #[(Value.func (.func 32) #[] #[ptr f 0,ptr u 0])] 93)]) H (ih bw) G G (ax) (q00 G) G Kt ?_)));intro cl M w its H N hR;replace K:=K.mono N;replace V:=V.mono N;try dsimp only at hR
     obtain⟨rfl,rfl⟩:=hR;simp only[l01,l02] at H;refine q0f [_,_] H Tz33 G (q00 G) G ?_;intro c8 w H;refine q05 [_,_] H G G G Ku Ts33 G Kf Kf (q00 G) ?_;intro w H;refine NL (TN (SQ ?_));obtain⟨cm,bx,z⟩:=bnd z;refine RG (ST (q0a H G Km Ta33 Ts33 Kf) G ?_);refine q03 H (Y05 bx) G trivial (q00 G) G ?_;intro cn M w H N hR;replace K:=K.mono N;replace V:=V.mono N;obtain rfl:=hR;refine NL (TN ?_);refine q09 G (fun ab=>?_) (fun ab=>?_)
     ·
      subst ab;rw[if_pos rfl] at z;refine SQ (RG (ST (q0a H G Km Ta33 Ts33 Kf) G ?_));refine q05 [_,_] H G G G Ku Ts33 G Kf Kf (q00 G) ?_;intro w H;refine NL (TN (RT ?_));obtain rfl:=oI z;try dsimp only at E
      obtain rfl:=oI E;try dsimp only at h
      obtain rfl:=oI h;exact q0x (its:=[.blk f (.cells #[I bi] 3), .blk u (.cells #[(Value.func (.func 32) #[] #[ptr f 0,ptr u 0])] 93)]) G ⟨_,G,H.loadAgg Km Ta33 Ts33 Kf⟩ H Kp ⟨G,G⟩
     subst ab;rw[if_neg l00] at z;refine SK (IB (TN ?_));obtain⟨co,bd,z⟩:=bnd z;refine RG (ST (q0b G G bd) G (MV G G (NL ?_)));exact AG aw ⟨_,_,_,_,_,G,(H.pick (L':=[.blk f (.cells #[I bi] 3), .blk u (.cells #[(Value.func (.func 32) #[] #[ptr f 0,ptr u 0])] 93), .blk Y (.cells #[I ah,I ai] 33)]) Kp),K,V,z⟩ (l04 _)
    rw[if_neg a9] at z;refine q0o (q04 (q04 (q0g ?_)));exact MN ⟨_,_,_,_,G,H,K,z⟩
   rintro e w ⟨ar,au,av,M,rfl,H,K,c4⟩;obtain rfl:=oI c4;try dsimp only at E
   refine IB (TN ?_);obtain⟨cp,be,E⟩:=bnd E;refine RG (ST (q0b G G be) G (MV G G (NL ?_)));exact AG an ⟨_,_,_,_,_,G,H,K,E⟩ (l04 _)
  rw[if_neg a6] at E;refine q0o (q04 (q04 (q0g ?_)));exact MN ⟨_,_,_,_,G,(H.pick (L':=[.blk Y (.cells #[I n7,I n8] 33), .blk f (.cells #[I n6] 3), .blk u (.cells #[(Value.func (.func 32) #[] #[ptr f 0,ptr u 0])] 93)]) Kp),E⟩
 rintro e w ⟨n3,n4,n5,M,rfl,H,c5⟩;obtain rfl:=oI c5;try dsimp only at h
 refine TN (SQ ?_);obtain⟨⟨cq,cr⟩,bz,h⟩:=bnd h;try dsimp only at h
 refine RG (q03 H (Y0i bz) G trivial (q00 G) G ?_);intro cs M w H N hR;try dsimp only at hR
 obtain rfl:=hR;refine q05 [_,_] H G G G Ku Ts33 G Kf Kf (q00 G) ?_;intro w H;refine NL (TN (RT ?_));obtain rfl:=oI h;exact q0x (its:=[.blk f (.cells #[I n5] 3), .blk u (.cells #[(Value.func (.func 32) #[] #[ptr f 0,ptr u 0])] 93)]) G ⟨_,G,H.loadAgg Km Ta33 Ts33 Kf⟩ H Kp ⟨G,G⟩
theorem Y4i :∀(m:Nat) {E:List BT90} {J:Int} {K:Int} {N:Unit} {z:Value} {f:Nat} {u:Nat} {r:Z0E},Y0d m E J K N=some r->CtX Tryz.prog 32 [z,I J,ptr f 0,ptr u 0] [.blk f (.cells #[I K] 3), .blk u (.cells #[(Value.func (.func 32) #[] #[ptr f 0,ptr u 0])] 93)] (fun M=>SlR xrl91 M z E) (fun v M its=>v=Value.agg #[I r.1.1,I r.1.2]/\its=[.blk f (.cells #[I r.2.1] 3), .blk u (.cells #[(Value.func (.func 32) #[] #[ptr f 0,ptr u 0])] 93)])
 | 0,_,_,_,_,_,_,_,_,h=>by rw[Y0d] at h;cases h
 | m+1,_,_,_,_,_,_,_,_,h=>Y5q (fun h=>Y4i m h) (by rw[Y0d] at h;exact h)
theorem Y5S {E:List BT90}{J:Int}{K:Int}{N:Unit}{z:Value}{f:Nat}{u:Nat}{r:Z0E}(h:Y49 E J K N=some r):CtX Tryz.prog 32 [z,I J,ptr f 0,ptr u 0] [.blk f (.cells #[I K] 3), .blk u (.cells #[(Value.func (.func 32) #[] #[ptr f 0,ptr u 0])] 93)] (fun M=>SlR xrl91 M z E) (fun v M its=>v=Value.agg #[I r.1.1,I r.1.2]/\its=[.blk f (.cells #[I r.2.1] 3), .blk u (.cells #[(Value.func (.func 32) #[] #[ptr f 0,ptr u 0])] 93)]):=Y4i FU h
theorem Y3c {E:List BT90}{z:Value}{r:Z0a}(h:Y1h E=some r):Ct Tryz.prog 14 [z] (fun M=>SlR xrl91 M z E) (fun v M=>v=Value.agg #[I r.1,I r.2]):=by
 refine Ct.of Tryz.func14 (enters Tryz.func14 Kr G) G G G ?_;intro U M0 H hp;have J:=hp;unfold Y1h at h;refine SQ (RG (q0f [_,_] H Tz33 G (q00 G) G ?_));intro N w H;refine NL (TN (SQ (RG (q0f [_] H Tz3 G (q00 G) G ?_))));intro f w H;refine q05 [_] H G G G Ku Ts3 G Kf Kf (q00 G) ?_;intro w H;refine NL (TN (SQ (RG (q0f [_] H Tryz.zeroValue93 G (q00 G) G ?_))));intro u w H;refine NL (TN (SQ (RG (ST (q1m G) G (q05 [_] H G G G Ku Tryz.sizeOf93 G Kf Kf (q00 G) ?_)))));intro w H;refine NL (TN (SQ ?_));obtain⟨⟨⟨V,Y⟩,Z,o4⟩,K,h⟩:=bnd h;try dsimp only at h
 refine RG (ST (XL H Tryz.isAgg93) G ?_);refine MV G G (XV (cap:=[ptr f 0,ptr u 0]) (A:=[.blk f (.cells #[I 0] 3), .blk u (.cells #[(Value.func (.func 32) #[] #[ptr f 0,ptr u 0])] 93)]) H (Y5S K) G G (J) (q00 G) G Kt ?_);intro v8 M w its H O hR;try dsimp only at hR
 obtain⟨rfl,rfl⟩:=hR;simp only[l01,l02] at H;refine q05 [_,_] H G G G Ku Ts33 G Kf Kf (q00 G) ?_;intro w H;refine NL (TN (RT ?_));obtain rfl:=oI h;exact q08 G ⟨_,G,H.loadAgg Km Ta33 Ts33 Kf⟩ H.ext G
theorem Y5K {p0 : Ls}{r : (List BT90 × Z0a)}(h : Y3S p0 = some r): Ct Tryz.prog 4 [S p0] (fun M => GlF (fun w => ∃ tp p, w.var? Tryz.prog "strconv.ErrRange" = some #[.iface tp p]) M /\ GlF (fun w => ∃ tp p, w.var? Tryz.prog "strconv.ErrSyntax" = some #[.iface tp p]) M /\ GlF (fun w => Lib.TabIs Tryz.prog w "internal/strconv.uint64pow10" .u64 Lib.pow10Tab) M) (fun v M => ∃ x0, v = Value.tuple #[x0, Value.agg #[I r.2.1, I r.2.2]] /\ SlR xrl91 M x0 r.1) := by
 refine Ct.of Tryz.func4 (enters Tryz.func4 Kr G) G G G ?_;intro w0 M0 H hp;obtain⟨u,z,f⟩:=hp;unfold Y3S at h;refine SQ (RG (AS G G (q0f [_,_] H Tz33 G (q00 G) G ?_)));intro Z w H;refine NL (TN (SQ (SQ (RG (MV G G (ST (q0q Tu9 G) G (ST (q0H G G) G (NL (TN ?_)))))))));refine CB (p:=(4000:Int)<(p0.length:Int)) G (fun a2=>?_) fun a2=>?_
 ·
  rw[if_pos a2] at h;refine SQ ?_;obtain⟨⟨n2,n3⟩,ab,h⟩:=bnd h;try dsimp only at h
  refine RG (q03 H (Y01 ab) G trivial (q00 G) G ?_);intro al M w H K hR;try dsimp only at hR
  obtain rfl:=hR;refine AS G G (q05 [_,_] H G G G Ku Ts33 G Kf Kf (q00 G) ?_);intro w H;refine NL (TN (RT ?_));obtain rfl:=oI h;exact q0M G G ⟨_,G,H.loadAgg Km Ta33 Ts33 Kf⟩ H.ext (⟨_,G,q0U⟩)
 rw[if_neg a2] at h;refine SK (TN (SQ (RG (MV G G (ST (q0A [S p0,I 0,I 0,I 0,S [],Value.bool false,I 0,I 1,I 0] Tu57 Tryz.zeroValue57 (xplaces57 Tu57) G Kr) G (q0I [_,_,_,_,_,_,_,_,_] H G G (q00 G) G ?_))))));intro N w H;refine AS G G (NL (TN (SQ ?_)));obtain⟨O,ac,h⟩:=bnd h;refine RG (MV G G (XC (A:=[.blk N (.cells #[S p0,I 0,I 0,I 0,S [],Value.bool false,I 0,I 1,I 0] 57)]) H (Y2R ac) G trivial (q00 G) G Kt ?_));intro am M w its H K hR;replace u:=u.mono K;replace z:=z.mono K;replace f:=f.mono K;obtain⟨rfl,rfl⟩:=hR;simp only[l01,l02] at H;refine NL (TN (SQ ?_));obtain⟨⟨l7,J⟩,ad,h⟩:=bnd h;try dsimp only at h
 refine RG (MV G G (XC (A:=[.blk N (.cells #[S O.1,I O.2.1,I O.2.2.1,I O.2.2.2.1,S O.2.2.2.2.1,Value.bool O.2.2.2.2.2.1,I O.2.2.2.2.2.2.1,I O.2.2.2.2.2.2.2.1,I O.2.2.2.2.2.2.2.2] 57)]) H (Y3L @Y5p ad) G ⟨u,z,f⟩ (q00 G) G Kt ?_));intro a4 M w its H K hR;replace u:=u.mono K;replace z:=z.mono K;replace f:=f.mono K;try dsimp only at hR
 obtain⟨ai,rfl,E,rfl⟩:=hR;simp only[l01,l02] at H;refine AS G G (NL (TN (SQ (SQ ?_))));obtain⟨ae,a0,h⟩:=bnd h
 refine q07 (fun e w => ∃ (a3 : Bool) (M : Mem), e = [(3, ptr Z 0), (4, ptr N 0), (5, a4), (29, Value.bool a3)] /\ St w0 M0 M [.blk Z (.cells #[I 0, I 0] 33), .blk N (.cells #[S J.1, I J.2.1, I J.2.2.1, I J.2.2.2.1, S J.2.2.2.2.1, Value.bool J.2.2.2.2.2.1, I J.2.2.2.2.2.2.1, I J.2.2.2.2.2.2.2.1, I J.2.2.2.2.2.2.2.2] 57)] w /\ GlF (fun w => ∃ tp p, w.var? Tryz.prog "strconv.ErrRange" = some #[.iface tp p]) M /\ GlF (fun w => ∃ tp p, w.var? Tryz.prog "strconv.ErrSyntax" = some #[.iface tp p]) M /\ GlF (fun w => Lib.TabIs Tryz.prog w "internal/strconv.uint64pow10" .u64 Lib.pow10Tab) M /\ SlR xrl91 M a4 l7 /\ some a3 = some ae) [] ?_ ?_ (trivial)
 ·
  refine RG (MV G G (FN G G Tu57 G Ts4 G G ?_));by_cases U:J.2.2.2.2.2.1=true
  ·
   rw[if_pos U] at a0;refine q0l (v' := .bool true) (XL H Ta4) (congrArg Value.bool U) (q00 G) G G ?_;refine MV G G (q06 6 G G (PT G G G (NL ?_)));exact MN ⟨_,_,G,(H.pick (L':=[.blk Z (.cells #[I 0,I 0] 33), .blk N (.cells #[S J.1,I J.2.1,I J.2.2.1,I J.2.2.2.1,S J.2.2.2.2.1,Value.bool J.2.2.2.2.2.1,I J.2.2.2.2.2.2.1,I J.2.2.2.2.2.2.2.1,I J.2.2.2.2.2.2.2.2] 57)]) Kp),u,z,f,E,a0⟩
  rw[if_neg U] at a0;refine q0l (v' := .bool false) (XL H Ta4) (congrArg Value.bool (l1d U)) (q00 G) G G ?_;refine MV G G (SG (q02 G) G G G (SG (q0k G) G G G (SG (q01 Tu57 G Ts55 Dc G) G G G (SG (q01 Tu55 G Ts3 Dc G) G G G (SG (XL H Ta3) G G G ?_)))));refine SG (q0E G G) G G G (PF G G G (NL ?_));exact MN ⟨_,_,G,(H.pick (L':=[.blk Z (.cells #[I 0,I 0] 33), .blk N (.cells #[S J.1,I J.2.1,I J.2.2.1,I J.2.2.2.1,S J.2.2.2.2.1,Value.bool J.2.2.2.2.2.1,I J.2.2.2.2.2.2.1,I J.2.2.2.2.2.2.2.1,I J.2.2.2.2.2.2.2.2] 57)]) Kp),u,z,f,E,a0⟩
 rintro e w ⟨a3,M,rfl,H,u,z,f,E,ah⟩;obtain rfl:=oI ah;refine TN ?_;refine q09 G (fun V=>?_) (fun V=>?_)
 ·
  subst V;rw[if_pos rfl] at h;refine SQ ?_;obtain⟨⟨an,ao⟩,a5,h⟩:=bnd h;try dsimp only at h
  refine RG (MV G G (FN G G Tu57 G Ts55 G G (ST (q01 Tu55 G Ts3 Dc G) G (ST (XL H Ta3) G ?_))));refine q03 H (Y01 a5) G trivial (q00 G) G ?_;intro ap M w H K hR;try dsimp only at hR
  obtain rfl:=hR;refine AS G G (q05 [_,_] H G G G Ku Ts33 G Kf Kf (q00 G) ?_);intro w H;refine NL (TN (RT ?_));obtain rfl:=oI h;exact q0M G G ⟨_,G,H.loadAgg Km Ta33 Ts33 Kf⟩ H.ext (⟨_,G,q0U⟩)
 subst V;rw[if_neg l00] at h;refine SK (TN (SQ (SQ ?_)));obtain⟨⟨aq,ar⟩,a6,h⟩:=bnd h;try dsimp only at h
 refine RG (MV G G (q03 H (Y3c a6) G (E) (q00 G) G ?_));intro au M w H K hR;replace E:=E.mono K;try dsimp only at hR
 obtain rfl:=hR;refine q0f [_,_] H Tz33 G (q00 G) G ?_;intro av w H;refine q05 [_,_] H G G G Ku Ts33 G Kf Kf (q00 G) ?_;intro w H;refine NL (TN (SQ ?_));obtain⟨aw,a7,h⟩:=bnd h;refine RG (ST (q0a H G Km Ta33 Ts33 Kf) G ?_);refine q03 H (Y05 a7) G trivial (q00 G) G ?_;intro ax M w H K hR;replace E:=E.mono K;obtain rfl:=hR;refine NL (TN ?_);refine q09 G (fun Y=>?_) (fun Y=>?_)
 ·
  subst Y;rw[if_pos rfl] at h;refine SQ ?_;obtain⟨⟨ay,az⟩,a8,h⟩:=bnd h;try dsimp only at h
  refine RG (ST (q01 Tu33 G Ts3 Dc G) G (ST (XL H Ta3) G ?_));refine q03 H (Y01 a8) G trivial (q00 G) G ?_;intro b0 M w H K hR;try dsimp only at hR
  obtain rfl:=hR;refine AS G G (q05 [_,_] H G G G Ku Ts33 G Kf Kf (q00 G) ?_);intro w H;refine NL (TN (RT ?_));obtain rfl:=oI h;exact q0M G G ⟨_,G,H.loadAgg Km Ta33 Ts33 Kf⟩ H.ext (⟨_,G,q0U⟩)
 subst Y;rw[if_neg l00] at h;refine SK (TN (SQ ?_));obtain⟨⟨b1,b2⟩,a9,h⟩:=bnd h;try dsimp only at h
 refine RG (MV G G (q03 H (Y0i a9) G trivial (q00 G) G ?_));intro b3 M w H K hR;replace E:=E.mono K;try dsimp only at hR
 obtain rfl:=hR;refine AS G G (q05 [_,_] H G G G Ku Ts33 G Kf Kf (q00 G) ?_);intro w H;refine NL (TN (RT ?_));obtain rfl:=oI h;exact q0M G G ⟨_,G,H.loadAgg Km Ta33 Ts33 Kf⟩ H.ext (⟨_,G,E⟩)
theorem Y6A {self:(List BT90)->Option Int}(ih :∀{N:List BT90} {E:Value} {r:Int},self N=some r->Ct Tryz.prog 40 [E] (fun M=>SlR xrl91 M E N) (fun v M=>v=I r)){N:List BT90}{E:Value}{r:Int}(h:Y3X self N=some r):Ct Tryz.prog 40 [E] (fun M=>SlR xrl91 M E N) (fun v M=>v=I r):=by
 refine Ct.of Tryz.func40 (enters Tryz.func40 Kr G) G G G ?_;intro w0 M0 H hp;have f:=hp;unfold Y3X at h;refine SQ (RG (AS G G (NL (TN (SQ (RG (AS G G (NL (TN (SQ (SQ (RG (MV G G (ST (q0S Tu31 f G) G (MV G G (NL (TN ?_)))))))))))))))));obtain⟨o1,u,h⟩:=bnd h;refine q07 (fun e w =>∃(n3:Int) (M:Mem),e=[(3,I n3)]/\St w0 M0 M [] w/\some n3=some o1) [] ?_ ?_ (trivial)
 ·
  refine BL (q0p (fun m e w =>∃(n4:Int) (n5:Int) (M:Mem),e=[(3,I n4),(6,E),(7,I (N.length:Int)),(8,I n5)]/\St w0 M0 M [] w/\SlR xrl91 M E N/\Y1x self N m n4 n5=some o1) FU [(3,_),(6,_),(7,_),(8,_)] ⟨rfl,rfl,rfl,rfl,trivial⟩ ⟨_,_,_,rfl,H,f,u⟩ ?_);rintro m6 e w ⟨n4,n5,M,rfl,H,f,u⟩;rcases m6 with _|m6
  · rw[Y1x] at u;cases u
  rw[Y1x] at u;refine SQ (RG (ST (q0n G G) G (NL (TN (SQ ?_)))));refine CB (p:=n5<(N.length:Int)) G (fun a1=>?_) fun a1=>?_
  ·
   rw[if_pos a1] at u;refine SK (TN (SQ (BL (SQ ?_))));obtain⟨K,aq,u⟩:=bnd u;obtain⟨b1,b2,ar,au,av,U⟩:=f.atC aq;obtain⟨a9,aa,ab,ac,ad,ae,ah,ai,aj,ak,a2,a3,a4⟩:=ar;replace U:a9=K.out.1/\aa=K.out.2.1/\SlR xrl89 _ (hv ab) K.out.2.2.1/\ac=K.out.2.2.2.1/\ad=K.out.2.2.2.2.1/\ae=K.out.2.2.2.2.2.1/\ah=K.out.2.2.2.2.2.2.1/\SlR xrl91 _ (hv ai) K.out.2.2.2.2.2.2.2.1/\SlR xrl91 _ (hv aj) K.out.2.2.2.2.2.2.2.2.1/\ak=K.out.2.2.2.2.2.2.2.2.2.1/\a2=K.out.2.2.2.2.2.2.2.2.2.2.1/\a3=K.out.2.2.2.2.2.2.2.2.2.2.2.1/\a4=K.out.2.2.2.2.2.2.2.2.2.2.2.2:=run90 U;obtain⟨rfl,rfl,a5,rfl,rfl,rfl,rfl,O,z,rfl,rfl,rfl,rfl⟩:=U;refine RG (ST (q0w au Tu31 Ts91 G G) G (ST (q0C H G av Ta91 Ts91 Kf) G ?_));refine q0f [_,_,_,_,_,_,_,_,_,_,_,_,_] H Tz91 G (q00 G) G ?_;intro b3 w H;refine q05 [_,_,_,_,_,_,_,_,_,_,_,_,_] H G G G Ku Ts91 G Kf (by simp only[l0f,l0j,(a5).one.2,(O).one.2,(z).one.2];rfl) (q00 G) ?_;intro w H;refine NL (TN ?_);obtain⟨n9,a6,u⟩:=bnd u;obtain⟨b4,V,u⟩:=bnd u;obtain⟨b5,a7,u⟩:=bnd u;obtain⟨b6,Y,u⟩:=bnd u;obtain⟨ax,Z,u⟩:=bnd u;refine q0Y (fun e w =>∃  (M:Mem),e=[(3,I ax),(6,E),(7,I (N.length:Int)),(8,I n5)]/\St w0 M0 M [] w/\SlR xrl91 M E N) ?_ ?_
   ·
    refine q0v (m:=11) G G H ?_;intro w H;refine TK 0 G (fun _=>q02 G) G (TK 1 G (fun _=>q01 Tu91 G Ts31 Dc G) G (TK 5 G (fun _=>q01 Tu91 G Ts31 Dc G) G (q0B (i:=2) [6] G Kr Kr Kr (XL H Ta31) (q00 G) G G (fun _ _=>G) ?_)));refine q0F (i:=3) (j:=6) Kr G G ?_ ?_
    ·
     refine q03 H (ih a6) G (O) (q00 G) G ?_;intro ay M w H J hR;replace f:=f.mono J;replace z:=z.mono J;obtain rfl:=hR;refine NA (TK 4 G (fun _=>q0b G G V) G (q0i (fuel:=0) [6,7,8,9,10] G Kr (ST (XL H Ta31) G ?_)));refine q03 H (ih a7) G (z) (q00 G) G ?_;intro az M w H J hR;replace f:=f.mono J;obtain rfl:=hR;refine ST (q0b G G Y) G (ST (q0b G G Z) G (AS G G (NA (q0d Kr ?_))));exact MP ⟨_,G,(H.pick (L':=[]) Kp),f⟩
    refine ST (XL H Ta31) G ?_;refine NA (ON 3 Kr G (q03 H (ih a6) G (O) (q00 G) G ?_));intro ay M w H J hR;replace f:=f.mono J;replace z:=z.mono J;obtain rfl:=hR;refine NA (TK 4 G (fun _=>q0b G G V) G (q0i (fuel:=0) [7,8,9,10] G Kr (q03 H (ih a7) G (z) (q00 G) G ?_)));intro az M w H J hR;replace f:=f.mono J;obtain rfl:=hR;refine ST (q0b G G Y) G (ST (q0b G G Z) G (AS G G (NA (q0d Kr ?_))));exact MP ⟨_,G,(H.pick (L':=[]) Kp),f⟩
   rintro e w ⟨M,rfl,H,f⟩;refine IB (TN ?_);obtain⟨b7,al,u⟩:=bnd u;refine RG (ST (q0b G G al) G (MV G G (NL ?_)));exact AG m6 ⟨_,_,_,G,H,f,u⟩ (l04 _)
  rw[if_neg a1] at u;refine q0o (q04 (q04 (q0g ?_)));exact MN ⟨_,_,G,H,u⟩
 rintro e w ⟨n3,M,rfl,H,b0⟩;obtain rfl:=oI b0;refine TN (SQ (RG (MV G G (AS G G (NL (TN (RT ?_)))))));obtain rfl:=oI h;exact q08 G G H.ext G
theorem Y5L :∀(m:Nat) {u:List BT90} {f:Value} {r:Int},Y2b m u=some r->Ct Tryz.prog 40 [f] (fun M=>SlR xrl91 M f u) (fun v M=>v=I r)
 | 0,_,_,_,h=>by rw[Y2b] at h;cases h
 | m+1,_,_,_,h=>Y6A (fun h=>Y5L m h) (by rw[Y2b] at h;exact h)
theorem Y0v {u:List BT90}{f:Value}{r:Int}(h:Y0L u=some r):Ct Tryz.prog 40 [f] (fun M=>SlR xrl91 M f u) (fun v M=>v=I r):=Y5L FU h
theorem Y5e {E:List Ls}{J:Ls}{z:Value}{r:Int}(h:Y1M E J=some r):Ct Tryz.prog 77 [z,S J] (fun M=>Sl M encS z E) (fun v M=>v=I r):=by
 refine Ct.of Tryz.func77 (enters Tryz.func77 Kr G) G G G ?_;intro w0 M0 H hp;have u:=hp;unfold Y1M at h;refine SQ (RG (AS G G (NL (TN (SQ (SQ (RG (MV G G (ST (q0V Tu45 u G) G (MV G G (NL (TN ?_))))))))))));obtain⟨o1,f,h⟩:=bnd h;refine q07 (fun e w =>∃  (M:Mem),e=[]/\St w0 M0 M [] w/\some (.inl ())=some o1) [] ?_ ?_ (trivial)
 ·
  refine BL (q0p (fun m e w =>∃(O:Int) (M:Mem),e=[(0,z),(1,S J),(7,I (E.length:Int)),(8,I O)]/\St w0 M0 M [] w/\Sl M encS z E/\Y0q E J m O=some o1) FU [(0,_),(1,_),(7,_),(8,_)] ⟨rfl,rfl,rfl,rfl,trivial⟩ ⟨_,_,rfl,H,u,f⟩ ?_);rintro U e w ⟨O,M,rfl,H,u,f⟩;rcases U with _|U
  · rw[Y0q] at f;cases f
  rw[Y0q] at f;refine SQ (RG (ST (q0n G G) G (NL (TN (SQ ?_)))));refine CB (p:=O<(E.length:Int)) G (fun K=>?_) fun K=>?_
  ·
   rw[if_pos K] at f;refine SK (TN (SQ (BL (SQ (RG (MV G G (AS G G (NL (TN (SQ ?_))))))))));obtain⟨a6,V,f⟩:=bnd f;obtain⟨a4,a7,Y,Z⟩:=u.atC V;refine RG (MV G G (MV G G (MV G G (ST (q0w Y Tu45 Ts9 G G) G (ST (q0m H G Z Ta9) G (ST (q0N G G) G (NL (TN ?_))))))));refine CB (p:=J=a6) G (fun N=>?_) fun N=>?_
   ·
    rw[if_pos N] at f;refine SQ (RG (MV G G (AS G G (NL (TN (RT ?_))))));obtain rfl:=oI f;try dsimp only at h
    obtain rfl:=oI h;exact q08 G G H.ext G
   rw[if_neg N] at f;refine SK (IB (TN ?_));obtain⟨n8,a0,f⟩:=bnd f;refine RG (ST (q0b G G a0) G (MV G G (NL ?_)));exact AG U ⟨_,_,G,H,u,f⟩ (l04 _)
  rw[if_neg K] at f;refine q0o (q04 (q04 (q0g ?_)));exact MN ⟨_,G,H,f⟩
 rintro e w ⟨M,rfl,H,q9⟩;obtain rfl:=oI q9;try dsimp only at h
 refine TN (SQ (RG (AS G G (NL (TN (RT ?_))))));obtain rfl:=oI h;exact q08 G G H.ext G
theorem Y1S {u:List Ls}{z:Ls}{f:Value}{r:Bool}(h:Y0l u z=some r):Ct Tryz.prog 46 [f,S z] (fun M=>Sl M encS f u) (fun v M=>v=Value.bool r):=by
 refine Ct.of Tryz.func46 (enters Tryz.func46 Kr G) G G G ?_;intro N M0 H hp;have E:=hp;unfold Y0l at h;refine SQ (RG (AS G G (NL (TN (SQ ?_)))));obtain⟨O,J,h⟩:=bnd h;refine RG (MV G G (MV G G (q03 H (Y5e J) G (E) (q00 G) G ?_)));intro U M w H K hR;obtain rfl:=hR;refine ST (q1a G G) G (AS G G (NL (TN (RT ?_))));obtain rfl:=oI h;exact q08 G G H.ext G
theorem Y5r {K:Z0m}{V:Ls}{N:Nat}{f:Value}{u:Value}{z:Value}{E:Value}{r:Z0m}(h:Y3t K V=some r):CtX Tryz.prog 26 [ptr N 0,S V] [.blk N (.cells #[f,u,z,E,I K.2.2.2.2] 47),RowI 9 encS f K.1] (fun M=>True) (fun v M its =>∃O,v=Value.tuple #[]/\its=[.blk N (.cells #[O,u,z,E,I r.2.2.2.2] 47),RowI 9 encS O r.1]):=by
 refine q0T Tf26 (enters Tf26 Kr G) G G G ?_;intro w0 M0 H hp;unfold Y3t at h;refine SQ ?_;obtain⟨b1,a1,h⟩:=bnd h;refine RG (MV G G (ST (q0k G) G (ST (XL H Ta45) G ?_)));refine MV G G (WR.callLend (l:=K.1) H Km (Y1S a1) (fun _ _ _ h=>h) G (fun _ a4 hbor=>hbor) (q00 G) G ?_);intro v8 M w H a2 hR;obtain rfl:=hR;refine ST (q0y G) G (NL (TN ?_));refine q09 G (fun J=>?_) (fun J=>?_)
 ·
  replace J:b1=false:=by simpa using J
  subst J;rw[if_neg l00] at h;obtain⟨l4,Y,h⟩:=bnd h;refine RG (MV G G (MV G G (ST (q0k G) G (ST (XL H Ta45) G ?_))));refine MV G G (q1g (enc:=encS) xty45 ([V]:List Ls) H G Kf (fun _=>G) G G (q00 G) G ?_);intro a5 M w H a2 Z;refine q1d (l:=K.1) xty45 G (fun _=>G) H G (fun _=>by repeat first|exact .head|apply Upd.tail) G (Z) Y (q00 G) G ?_;intro U w H;refine ST (q0k G) G (q0J [_,_,_,_,_] H G G (H.rowOne Km) Ku Kf Ts45 (by first|decide|(simp;done)|(simp;omega)) (q00 G) ?_);intro w H;refine NL ?_;obtain rfl:=oI h;exact q1e (its:=[.blk N (.cells #[U,u,z,E,I K.2.2.2.2] 47),RowI 9 encS U l4]) G H Kp ⟨_,G,G⟩
 replace J:b1=true:=by simpa using J
 subst J;rw[if_pos rfl] at h;refine SK ?_;obtain rfl:=oI h;exact q1e (its:=[.blk N (.cells #[f,u,z,E,I K.2.2.2.2] 47),RowI 9 encS f K.1]) G H Kp ⟨_,G,G⟩
theorem Y6B {K:Z0l}{V:Ls}{N:Nat}{f:Value}{u:Value}{z:Value}{E:Value}{r:Z0l}(h:Y3Y K V=some r):CtX Tryz.prog 26 [ptr N 1,S V] [.blk N (.cells #[f,u,z,E,I K.2.2.2.2] 47),RowI 9 encS u K.2.1] (fun M=>True) (fun v M its =>∃O,v=Value.tuple #[]/\its=[.blk N (.cells #[f,O,z,E,I r.2.2.2.2] 47),RowI 9 encS O r.2.1]):=by
 refine q0T Tf26 (enters Tf26 Kr G) G G G ?_;intro w0 M0 H hp;unfold Y3Y at h;refine SQ ?_;obtain⟨b1,a1,h⟩:=bnd h;refine RG (MV G G (ST (q0k G) G (ST (XL H Ta45) G ?_)));refine MV G G (WR.callLend (l:=K.2.1) H Km (Y1S a1) (fun _ _ _ h=>h) G (fun _ a4 hbor=>hbor) (q00 G) G ?_);intro v8 M w H a2 hR;obtain rfl:=hR;refine ST (q0y G) G (NL (TN ?_));refine q09 G (fun J=>?_) (fun J=>?_)
 ·
  replace J:b1=false:=by simpa using J
  subst J;rw[if_neg l00] at h;obtain⟨l4,Y,h⟩:=bnd h;refine RG (MV G G (MV G G (ST (q0k G) G (ST (XL H Ta45) G ?_))));refine MV G G (q1g (enc:=encS) xty45 ([V]:List Ls) H G Kf (fun _=>G) G G (q00 G) G ?_);intro a5 M w H a2 Z;refine q1d (l:=K.2.1) xty45 G (fun _=>G) H G (fun _=>by repeat first|exact .head|apply Upd.tail) G (Z) Y (q00 G) G ?_;intro U w H;refine ST (q0k G) G (q0J [_,_,_,_,_] H G G (H.rowOne Km) Ku Kf Ts45 (by first|decide|(simp;done)|(simp;omega)) (q00 G) ?_);intro w H;refine NL ?_;obtain rfl:=oI h;exact q1e (its:=[.blk N (.cells #[f,U,z,E,I K.2.2.2.2] 47),RowI 9 encS U l4]) G H Kp ⟨_,G,G⟩
 replace J:b1=true:=by simpa using J
 subst J;rw[if_pos rfl] at h;refine SK ?_;obtain rfl:=oI h;exact q1e (its:=[.blk N (.cells #[f,u,z,E,I K.2.2.2.2] 47),RowI 9 encS u K.2.1]) G H Kp ⟨_,G,G⟩
theorem Y6C {K:Z0k}{V:Ls}{N:Nat}{f:Value}{u:Value}{z:Value}{E:Value}{r:Z0k}(h:Y3Z K V=some r):CtX Tryz.prog 26 [ptr N 2,S V] [.blk N (.cells #[f,u,z,E,I K.2.2.2.2] 47),RowI 9 encS z K.2.2.1] (fun M=>True) (fun v M its =>∃O,v=Value.tuple #[]/\its=[.blk N (.cells #[f,u,O,E,I r.2.2.2.2] 47),RowI 9 encS O r.2.2.1]):=by
 refine q0T Tf26 (enters Tf26 Kr G) G G G ?_;intro w0 M0 H hp;unfold Y3Z at h;refine SQ ?_;obtain⟨b1,a1,h⟩:=bnd h;refine RG (MV G G (ST (q0k G) G (ST (XL H Ta45) G ?_)));refine MV G G (WR.callLend (l:=K.2.2.1) H Km (Y1S a1) (fun _ _ _ h=>h) G (fun _ a4 hbor=>hbor) (q00 G) G ?_);intro v8 M w H a2 hR;obtain rfl:=hR;refine ST (q0y G) G (NL (TN ?_));refine q09 G (fun J=>?_) (fun J=>?_)
 ·
  replace J:b1=false:=by simpa using J
  subst J;rw[if_neg l00] at h;obtain⟨l4,Y,h⟩:=bnd h;refine RG (MV G G (MV G G (ST (q0k G) G (ST (XL H Ta45) G ?_))));refine MV G G (q1g (enc:=encS) xty45 ([V]:List Ls) H G Kf (fun _=>G) G G (q00 G) G ?_);intro a5 M w H a2 Z;refine q1d (l:=K.2.2.1) xty45 G (fun _=>G) H G (fun _=>by repeat first|exact .head|apply Upd.tail) G (Z) Y (q00 G) G ?_;intro U w H;refine ST (q0k G) G (q0J [_,_,_,_,_] H G G (H.rowOne Km) Ku Kf Ts45 (by first|decide|(simp;done)|(simp;omega)) (q00 G) ?_);intro w H;refine NL ?_;obtain rfl:=oI h;exact q1e (its:=[.blk N (.cells #[f,u,U,E,I K.2.2.2.2] 47),RowI 9 encS U l4]) G H Kp ⟨_,G,G⟩
 replace J:b1=true:=by simpa using J
 subst J;rw[if_pos rfl] at h;refine SK ?_;obtain rfl:=oI h;exact q1e (its:=[.blk N (.cells #[f,u,z,E,I K.2.2.2.2] 47),RowI 9 encS z K.2.2.1]) G H Kp ⟨_,G,G⟩
theorem Y6D {K:Z0j}{V:Ls}{N:Nat}{f:Value}{u:Value}{z:Value}{E:Value}{r:Z0j}(h:Y40 K V=some r):CtX Tryz.prog 26 [ptr N 3,S V] [.blk N (.cells #[f,u,z,E,I K.2.2.2.2] 47),RowI 9 encS E K.2.2.2.1] (fun M=>True) (fun v M its =>∃O,v=Value.tuple #[]/\its=[.blk N (.cells #[f,u,z,O,I r.2.2.2.2] 47),RowI 9 encS O r.2.2.2.1]):=by
 refine q0T Tf26 (enters Tf26 Kr G) G G G ?_;intro w0 M0 H hp;unfold Y40 at h;refine SQ ?_;obtain⟨b1,a1,h⟩:=bnd h;refine RG (MV G G (ST (q0k G) G (ST (XL H Ta45) G ?_)));refine MV G G (WR.callLend (l:=K.2.2.2.1) H Km (Y1S a1) (fun _ _ _ h=>h) G (fun _ a4 hbor=>hbor) (q00 G) G ?_);intro v8 M w H a2 hR;obtain rfl:=hR;refine ST (q0y G) G (NL (TN ?_));refine q09 G (fun J=>?_) (fun J=>?_)
 ·
  replace J:b1=false:=by simpa using J
  subst J;rw[if_neg l00] at h;obtain⟨l4,Y,h⟩:=bnd h;refine RG (MV G G (MV G G (ST (q0k G) G (ST (XL H Ta45) G ?_))));refine MV G G (q1g (enc:=encS) xty45 ([V]:List Ls) H G Kf (fun _=>G) G G (q00 G) G ?_);intro a5 M w H a2 Z;refine q1d (l:=K.2.2.2.1) xty45 G (fun _=>G) H G (fun _=>by repeat first|exact .head|apply Upd.tail) G (Z) Y (q00 G) G ?_;intro U w H;refine ST (q0k G) G (q0J [_,_,_,_,_] H G G (H.rowOne Km) Ku Kf Ts45 (by first|decide|(simp;done)|(simp;omega)) (q00 G) ?_);intro w H;refine NL ?_;obtain rfl:=oI h;exact q1e (its:=[.blk N (.cells #[f,u,z,U,I K.2.2.2.2] 47),RowI 9 encS U l4]) G H Kp ⟨_,G,G⟩
 replace J:b1=true:=by simpa using J
 subst J;rw[if_pos rfl] at h;refine SK ?_;obtain rfl:=oI h;exact q1e (its:=[.blk N (.cells #[f,u,z,E,I K.2.2.2.2] 47),RowI 9 encS E K.2.2.2.1]) G H Kp ⟨_,G,G⟩
end Go.Proofs.YtgicephoflppiaaGreatDoor
end
