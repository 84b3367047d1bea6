/- A part of the proof. -/
import Derived.Test.YtjakhnhnjhafgaaGreatK19
set_option linter.unusedVariables false
set_option linter.unusedSimpArgs false
namespace Ow
open Go Go.RowKit Go.Deep
structure AbsEdge where
 To:Int
 State:AbsState
 deriving DecidableEq
structure En3 where
 I : List (Nat×Int):=[]
 B : List (Nat×Bool):=[]
 L : List (Nat×List (List D)):=[]
 S : List (Nat×ByteArray):=[]
def mkEs : List En3→Env
 | []=>env0
 | e::es=>⟨fun i a=>lk e.I ((mkEs es).I i a) i a,fun i a=>lk e.B ((mkEs es).B i a) i a,fun i a=>lk e.S ((mkEs es).S i a) i a,fun i a=>lk e.L ((mkEs es).L i a) i a⟩
@[go_sem] theorem mkEs_I{e:En3}{es:List En3}{i:Nat}{a:List C}:(mkEs (e::es)).I i a=lk e.I ((mkEs es).I i a) i a:=rfl
@[go_sem] theorem mkEs_B{e:En3}{es:List En3}{i:Nat}{a:List C}:(mkEs (e::es)).B i a=lk e.B ((mkEs es).B i a) i a:=rfl
@[go_sem] theorem mkEs_S{e:En3}{es:List En3}{i:Nat}{a:List C}:(mkEs (e::es)).S i a=lk e.S ((mkEs es).S i a) i a:=rfl
@[go_sem] theorem mkEs_L{e:En3}{es:List En3}{i:Nat}{a:List C}:(mkEs (e::es)).L i a=lk e.L ((mkEs es).L i a) i a:=rfl
abbrev eI(i:Nat)(n:Int):En3:={ I:=[(i,n)] }
abbrev eB(i:Nat)(b:Bool):En3:={ B:=[(i,b)] }
abbrev eL(i:Nat)(r:List (List D)):En3:={ L:=[(i,r)] }
abbrev xi(j:Nat):X:=.ati .i64 j .nil
theorem gD{α:Type}{f:α→List D}{xs:List α}{i:Nat}{z:α}{β:Type}{g:List D→β}(h:g []=g (f z)):g ((xs.map f).getD i [])=g (f (xs.getD i z)):=by
 simp only [List.getD_eq_getElem?_getD,List.getElem?_map]
 cases xs[i]? with
 | none=>exact h
 | some a=>rfl
def dInt(x:Int):List D:=[.lit (.int .i64 x)]
abbrev kInt : Ki:=.cons (.int .i64) .nil
theorem row_Int(x:Int):kInt.row (dInt x)=dInt x:=rfl
@[go_sem] theorem map_Int{xs:List Int}:(xs.map dInt).map kInt.row=xs.map dInt:=map_row row_Int xs
@[go_sem] theorem get_Int_0{xs:List Int}{i:Nat}:intD (((xs.map dInt).getD i []).getD 0 dz)=(xs.getD i 0):=gD (z:=0) (g:=fun r=>intD (r.getD 0 dz)) rfl
def uInt(r:List D):Int:=intD (r.headD dz)
theorem un_Int(r:List D):kInt.row r=dInt (uInt r):=rfl
@[go_sem] theorem fz_Int{α:Type}{l:List α}{g:α→List D}:l.map (fun c=>kInt.row (g c))=(l.map (fun c=>uInt (g c))).map dInt:=by simp only [List.map_map,Function.comp_def,un_Int]
theorem mr_Int{l:List (List D)}:l.map kInt.row=(l.map uInt).map dInt:=by rw [List.map_map];exact List.map_congr_left (fun r _=>un_Int r)
@[go_sem] theorem uc_Int{α:Type}{c:α}{l:List α}{g:α→List D}:(c::l).map (fun c=>uInt (g c))=uInt (g c)::l.map (fun c=>uInt (g c)):=rfl
@[go_sem] theorem un0_Int{α:Type}{g:α→List D}:([]:List α).map (fun c=>uInt (g c))=[]:=rfl
theorem ud_Int(x:Int):uInt (dInt x)=x:=rfl
@[go_sem] theorem inj_Int{l m:List Int}:l.map dInt=m.map dInt↔l=m:=⟨fun h=>by have:=congrArg (List.map uInt) h;simpa [Function.comp_def,ud_Int] using this,fun h=>by rw [h]⟩
abbrev qInt(l:List Int):List C:=l.map (fun x=>.tup ((dInt x).map .d))
@[go_sem] theorem rws_Int{l:List Int}:(l.map dInt).map (fun r=>C.tup ((kInt.row r).map C.d))=qInt l:=by rw [List.map_map];exact List.map_congr_left (fun x _=>by simp only [Function.comp,row_Int])
theorem qinj_Int{l m:List Int}:qInt l=qInt m↔l=m:=by
 refine ⟨fun h=>?_,fun h=>by rw [h]⟩
 have:=congrArg (List.map (fun c=>uInt ((tupOf c).map dOf))) h
 simpa [Function.comp_def,tupOf,dOf,ud_Int] using this
@[go_sem high] theorem qsn_Int{l:List Int}{a0:Int}:qInt l++[C.tup [.d (.lit (.int .i64 a0))]]=qInt (l++[a0]):=by
 have e:qInt (l++[a0])=qInt l++[C.tup [.d (.lit (.int .i64 a0))]]:=List.map_append
 exact e.symm
@[go_sem] theorem iteq_Int{c:Prop}[Decidable c]{a b:List Int}:(if c then C.tup (qInt a) else C.tup (qInt b))=C.tup (qInt (if c then a else b)):=by split<;>rfl
@[go_sem high] theorem gq_Int_0{l:List Int}{i:Nat}:intD (dOf ((tupOf ((qInt l).getD i .dead)).getD 0 .dead))=(l.getD i 0):=by
 simp only [List.getD_eq_getElem?_getD,List.getElem?_map]
 cases l[i]? <;> rfl
@[go_sem] theorem qeq_Int{l m:List Int}:C.tup (qInt l)=C.tup (qInt m)↔l=m:=by rw [C.tup.injEq,qinj_Int]
@[go_sem] theorem qnil_Int{m:List Int}:C.tup []=C.tup (qInt m)↔[]=m:=by rw [←qinj_Int,C.tup.injEq];rfl
@[go_sem high] theorem qfz_Int{l:List Int}:(qInt l).map (fun c=>kInt.row ((tupOf c).map dOf))=l.map dInt:=by rw [List.map_map];exact List.map_congr_left (fun x _=>by simp only [Function.comp,tupOf,List.map_map,Function.comp_def,dOf,List.map_id'];exact row_Int x)
def xInt(i:Nat):X:=.ati .i64 i .nil
abbrev eInt(i:Nat)(x:Int):En3:={ I:=[(i,x)] }
def xLInt(i:Nat):X:=.atl (.cons (.int .i64) .nil) i .nil
abbrev eLInt(i:Nat)(x:(List Int)):En3:={ L:=[(i,x.map dInt)] }
def dU8(x:UInt8):List D:=[.lit (.int .u8 x.toNat)]
abbrev kU8 : Ki:=.cons (.int .u8) .nil
theorem row_U8(x:UInt8):kU8.row (dU8 x)=dU8 x:=rfl
@[go_sem] theorem map_U8{xs:List UInt8}:(xs.map dU8).map kU8.row=xs.map dU8:=map_row row_U8 xs
@[go_sem] theorem get_U8_0{xs:List UInt8}{i:Nat}:intD (((xs.map dU8).getD i []).getD 0 dz)=((xs.getD i 0).toNat:Int):=gD (z:=0) (g:=fun r=>intD (r.getD 0 dz)) rfl
def xLU8(i:Nat):X:=.atl (.cons (.int .u8) .nil) i .nil
abbrev eLU8(i:Nat)(x:(List UInt8)):En3:={ L:=[(i,x.map dU8)] }
def xBool(i:Nat):X:=.atb i .nil
abbrev eBool(i:Nat)(x:Bool):En3:={ B:=[(i,x)] }
def zInsIns : InsIns:={ Op:=0,D:=0,A:=0,B:=0,Rel:=0,Lo:=0,Hi:=0,To:=0 }
def dInsIns(x:InsIns):List D:=[.lit (.int .i64 x.Op),.lit (.int .i64 x.D),.lit (.int .i64 x.A),.lit (.int .i64 x.B),.lit (.int .i64 x.Rel),.lit (.int .i64 x.Lo),.lit (.int .i64 x.Hi),.lit (.int .i64 x.To)]
@[go_sem] theorem exists_InsIns{p:InsIns→Prop}:(∃x,p x)↔∃a0:Int,∃a1:Int,∃a2:Int,∃a3:Int,∃a4:Int,∃a5:Int,∃a6:Int,∃a7:Int,p ⟨a0,a1,a2,a3,a4,a5,a6,a7⟩:=⟨fun ⟨x,h⟩=>⟨x.Op,x.D,x.A,x.B,x.Rel,x.Lo,x.Hi,x.To,h⟩,fun ⟨a0,a1,a2,a3,a4,a5,a6,a7,h⟩=>⟨_,h⟩⟩
abbrev kInsIns : Ki:=.cons (.int .i64) (.cons (.int .i64) (.cons (.int .i64) (.cons (.int .i64) (.cons (.int .i64) (.cons (.int .i64) (.cons (.int .i64) (.cons (.int .i64) .nil)))))))
theorem row_InsIns(x:InsIns):kInsIns.row (dInsIns x)=dInsIns x:=rfl
@[go_sem] theorem map_InsIns{xs:List InsIns}:(xs.map dInsIns).map kInsIns.row=xs.map dInsIns:=map_row row_InsIns xs
@[go_sem] theorem get_InsIns_0{xs:List InsIns}{i:Nat}:intD (((xs.map dInsIns).getD i []).getD 0 dz)=(xs.getD i zInsIns).Op:=gD (z:=zInsIns) (g:=fun r=>intD (r.getD 0 dz)) rfl
@[go_sem] theorem get_InsIns_1{xs:List InsIns}{i:Nat}:intD (((xs.map dInsIns).getD i []).getD 1 dz)=(xs.getD i zInsIns).D:=gD (z:=zInsIns) (g:=fun r=>intD (r.getD 1 dz)) rfl
@[go_sem] theorem get_InsIns_2{xs:List InsIns}{i:Nat}:intD (((xs.map dInsIns).getD i []).getD 2 dz)=(xs.getD i zInsIns).A:=gD (z:=zInsIns) (g:=fun r=>intD (r.getD 2 dz)) rfl
@[go_sem] theorem get_InsIns_3{xs:List InsIns}{i:Nat}:intD (((xs.map dInsIns).getD i []).getD 3 dz)=(xs.getD i zInsIns).B:=gD (z:=zInsIns) (g:=fun r=>intD (r.getD 3 dz)) rfl
@[go_sem] theorem get_InsIns_4{xs:List InsIns}{i:Nat}:intD (((xs.map dInsIns).getD i []).getD 4 dz)=(xs.getD i zInsIns).Rel:=gD (z:=zInsIns) (g:=fun r=>intD (r.getD 4 dz)) rfl
@[go_sem] theorem get_InsIns_5{xs:List InsIns}{i:Nat}:intD (((xs.map dInsIns).getD i []).getD 5 dz)=(xs.getD i zInsIns).Lo:=gD (z:=zInsIns) (g:=fun r=>intD (r.getD 5 dz)) rfl
@[go_sem] theorem get_InsIns_6{xs:List InsIns}{i:Nat}:intD (((xs.map dInsIns).getD i []).getD 6 dz)=(xs.getD i zInsIns).Hi:=gD (z:=zInsIns) (g:=fun r=>intD (r.getD 6 dz)) rfl
@[go_sem] theorem get_InsIns_7{xs:List InsIns}{i:Nat}:intD (((xs.map dInsIns).getD i []).getD 7 dz)=(xs.getD i zInsIns).To:=gD (z:=zInsIns) (g:=fun r=>intD (r.getD 7 dz)) rfl
def uInsIns(r:List D):InsIns:=⟨intD (r.headD dz),intD (r.tail.headD dz),intD (r.tail.tail.headD dz),intD (r.tail.tail.tail.headD dz),intD (r.tail.tail.tail.tail.headD dz),intD (r.tail.tail.tail.tail.tail.headD dz),intD (r.tail.tail.tail.tail.tail.tail.headD dz),intD (r.tail.tail.tail.tail.tail.tail.tail.headD dz)⟩
theorem un_InsIns(r:List D):kInsIns.row r=dInsIns (uInsIns r):=rfl
@[go_sem] theorem fz_InsIns{α:Type}{l:List α}{g:α→List D}:l.map (fun c=>kInsIns.row (g c))=(l.map (fun c=>uInsIns (g c))).map dInsIns:=by simp only [List.map_map,Function.comp_def,un_InsIns]
theorem mr_InsIns{l:List (List D)}:l.map kInsIns.row=(l.map uInsIns).map dInsIns:=by rw [List.map_map];exact List.map_congr_left (fun r _=>un_InsIns r)
@[go_sem] theorem uc_InsIns{α:Type}{c:α}{l:List α}{g:α→List D}:(c::l).map (fun c=>uInsIns (g c))=uInsIns (g c)::l.map (fun c=>uInsIns (g c)):=rfl
@[go_sem] theorem un0_InsIns{α:Type}{g:α→List D}:([]:List α).map (fun c=>uInsIns (g c))=[]:=rfl
theorem ud_InsIns(x:InsIns):uInsIns (dInsIns x)=x:=rfl
@[go_sem] theorem inj_InsIns{l m:List InsIns}:l.map dInsIns=m.map dInsIns↔l=m:=⟨fun h=>by have:=congrArg (List.map uInsIns) h;simpa [Function.comp_def,ud_InsIns] using this,fun h=>by rw [h]⟩
abbrev qInsIns(l:List InsIns):List C:=l.map (fun x=>.tup ((dInsIns x).map .d))
@[go_sem] theorem rws_InsIns{l:List InsIns}:(l.map dInsIns).map (fun r=>C.tup ((kInsIns.row r).map C.d))=qInsIns l:=by rw [List.map_map];exact List.map_congr_left (fun x _=>by simp only [Function.comp,row_InsIns])
theorem qinj_InsIns{l m:List InsIns}:qInsIns l=qInsIns m↔l=m:=by
 refine ⟨fun h=>?_,fun h=>by rw [h]⟩
 have:=congrArg (List.map (fun c=>uInsIns ((tupOf c).map dOf))) h
 simpa [Function.comp_def,tupOf,dOf,ud_InsIns] using this
@[go_sem high] theorem qsn_InsIns{l:List InsIns}{a0:Int}{a1:Int}{a2:Int}{a3:Int}{a4:Int}{a5:Int}{a6:Int}{a7:Int}:qInsIns l++[C.tup [.d (.lit (.int .i64 a0)),.d (.lit (.int .i64 a1)),.d (.lit (.int .i64 a2)),.d (.lit (.int .i64 a3)),.d (.lit (.int .i64 a4)),.d (.lit (.int .i64 a5)),.d (.lit (.int .i64 a6)),.d (.lit (.int .i64 a7))]]=qInsIns (l++[⟨a0,a1,a2,a3,a4,a5,a6,a7⟩]):=by
 have e:qInsIns (l++[⟨a0,a1,a2,a3,a4,a5,a6,a7⟩])=qInsIns l++[C.tup [.d (.lit (.int .i64 a0)),.d (.lit (.int .i64 a1)),.d (.lit (.int .i64 a2)),.d (.lit (.int .i64 a3)),.d (.lit (.int .i64 a4)),.d (.lit (.int .i64 a5)),.d (.lit (.int .i64 a6)),.d (.lit (.int .i64 a7))]]:=List.map_append
 exact e.symm
@[go_sem] theorem iteq_InsIns{c:Prop}[Decidable c]{a b:List InsIns}:(if c then C.tup (qInsIns a) else C.tup (qInsIns b))=C.tup (qInsIns (if c then a else b)):=by split<;>rfl
@[go_sem] theorem qeq_InsIns{l m:List InsIns}:C.tup (qInsIns l)=C.tup (qInsIns m)↔l=m:=by rw [C.tup.injEq,qinj_InsIns]
@[go_sem] theorem qnil_InsIns{m:List InsIns}:C.tup []=C.tup (qInsIns m)↔[]=m:=by rw [←qinj_InsIns,C.tup.injEq];rfl
@[go_sem high] theorem qfz_InsIns{l:List InsIns}:(qInsIns l).map (fun c=>kInsIns.row ((tupOf c).map dOf))=l.map dInsIns:=by rw [List.map_map];exact List.map_congr_left (fun x _=>by simp only [Function.comp,tupOf,List.map_map,Function.comp_def,dOf,List.map_id'];exact row_InsIns x)
def xInsIns(i:Nat):X:=.agg (.cons (.ati .i64 (i+0) .nil) (.cons (.ati .i64 (i+1) .nil) (.cons (.ati .i64 (i+2) .nil) (.cons (.ati .i64 (i+3) .nil) (.cons (.ati .i64 (i+4) .nil) (.cons (.ati .i64 (i+5) .nil) (.cons (.ati .i64 (i+6) .nil) (.cons (.ati .i64 (i+7) .nil) .nil))))))))
abbrev eInsIns(i:Nat)(x:InsIns):En3:={ I:=[(i+0,x.Op),(i+1,x.D),(i+2,x.A),(i+3,x.B),(i+4,x.Rel),(i+5,x.Lo),(i+6,x.Hi),(i+7,x.To)],B:=[],L:=[],S:=[] }
def xLInsIns(i:Nat):X:=.atl (.cons (.int .i64) (.cons (.int .i64) (.cons (.int .i64) (.cons (.int .i64) (.cons (.int .i64) (.cons (.int .i64) (.cons (.int .i64) (.cons (.int .i64) .nil)))))))) i .nil
abbrev eLInsIns(i:Nat)(x:(List InsIns)):En3:={ L:=[(i,x.map dInsIns)] }
def zPrcProc : PrcProc:={ Lo:=0,Hi:=0,Code:=[] }
def dPrcProc(x:PrcProc):List D:=[.lit (.int .i64 x.Lo),.lit (.int .i64 x.Hi),.sl 8 (x.Code.map dInsIns)]
@[go_sem] theorem exists_PrcProc{p:PrcProc→Prop}:(∃x,p x)↔∃a0:Int,∃a1:Int,∃a2:(List InsIns),p ⟨a0,a1,a2⟩:=⟨fun ⟨x,h⟩=>⟨x.Lo,x.Hi,x.Code,h⟩,fun ⟨a0,a1,a2,h⟩=>⟨_,h⟩⟩
abbrev kPrcProc : Ki:=.cons (.int .i64) (.cons (.int .i64) (.cons (.sl (.cons (.int .i64) (.cons (.int .i64) (.cons (.int .i64) (.cons (.int .i64) (.cons (.int .i64) (.cons (.int .i64) (.cons (.int .i64) (.cons (.int .i64) .nil))))))))) .nil))
theorem row_PrcProc(x:PrcProc):kPrcProc.row (dPrcProc x)=dPrcProc x:=by
 show ([.lit (.int .i64 x.Lo),.lit (.int .i64 x.Hi),.sl 8 ((x.Code.map dInsIns).map kInsIns.row)]:List D)=_
 simp only [map_InsIns,dPrcProc]
@[go_sem] theorem map_PrcProc{xs:List PrcProc}:(xs.map dPrcProc).map kPrcProc.row=xs.map dPrcProc:=map_row row_PrcProc xs
@[go_sem] theorem get_PrcProc_0{xs:List PrcProc}{i:Nat}:intD (((xs.map dPrcProc).getD i []).getD 0 dz)=(xs.getD i zPrcProc).Lo:=gD (z:=zPrcProc) (g:=fun r=>intD (r.getD 0 dz)) rfl
@[go_sem] theorem get_PrcProc_1{xs:List PrcProc}{i:Nat}:intD (((xs.map dPrcProc).getD i []).getD 1 dz)=(xs.getD i zPrcProc).Hi:=gD (z:=zPrcProc) (g:=fun r=>intD (r.getD 1 dz)) rfl
@[go_sem] theorem get_PrcProc_2{xs:List PrcProc}{i:Nat}:elsD (((xs.map dPrcProc).getD i []).getD 2 dz)=(xs.getD i zPrcProc).Code.map dInsIns:=gD (z:=zPrcProc) (g:=fun r=>elsD (r.getD 2 dz)) rfl
def uPrcProc(r:List D):PrcProc:=⟨intD (r.headD dz),intD (r.tail.headD dz),(elsD (r.tail.tail.headD dz)).map uInsIns⟩
theorem un_PrcProc(r:List D):kPrcProc.row r=dPrcProc (uPrcProc r):=by
 show ([.lit (.int .i64 (intD (r.headD dz))),.lit (.int .i64 (intD (r.tail.headD dz))),.sl 8 ((elsD (r.tail.tail.headD dz)).map kInsIns.row)]:List D)=_
 simp only [mr_InsIns,dPrcProc,uPrcProc]
@[go_sem] theorem fz_PrcProc{α:Type}{l:List α}{g:α→List D}:l.map (fun c=>kPrcProc.row (g c))=(l.map (fun c=>uPrcProc (g c))).map dPrcProc:=by simp only [List.map_map,Function.comp_def,un_PrcProc]
@[go_sem] theorem uc_PrcProc{α:Type}{c:α}{l:List α}{g:α→List D}:(c::l).map (fun c=>uPrcProc (g c))=uPrcProc (g c)::l.map (fun c=>uPrcProc (g c)):=rfl
@[go_sem] theorem un0_PrcProc{α:Type}{g:α→List D}:([]:List α).map (fun c=>uPrcProc (g c))=[]:=rfl
theorem ud_PrcProc(x:PrcProc):uPrcProc (dPrcProc x)=x:=by
 simp only [uPrcProc,dPrcProc,List.headD_cons,List.tail_cons,intD_i,boolD_b,strD_s,elsD_s,List.map_map,Function.comp_def,ud_InsIns,List.map_id']
@[go_sem] theorem inj_PrcProc{l m:List PrcProc}:l.map dPrcProc=m.map dPrcProc↔l=m:=⟨fun h=>by have:=congrArg (List.map uPrcProc) h;simpa [Function.comp_def,ud_PrcProc] using this,fun h=>by rw [h]⟩
abbrev qPrcProc(l:List PrcProc):List C:=l.map (fun x=>.tup ((dPrcProc x).map .d))
@[go_sem] theorem rws_PrcProc{l:List PrcProc}:(l.map dPrcProc).map (fun r=>C.tup ((kPrcProc.row r).map C.d))=qPrcProc l:=by rw [List.map_map];exact List.map_congr_left (fun x _=>by simp only [Function.comp,row_PrcProc])
theorem qinj_PrcProc{l m:List PrcProc}:qPrcProc l=qPrcProc m↔l=m:=by
 refine ⟨fun h=>?_,fun h=>by rw [h]⟩
 have:=congrArg (List.map (fun c=>uPrcProc ((tupOf c).map dOf))) h
 simpa [Function.comp_def,tupOf,dOf,ud_PrcProc] using this
@[go_sem high] theorem qsn_PrcProc{l:List PrcProc}{a0:Int}{a1:Int}{a2:List InsIns}:qPrcProc l++[C.tup [.d (.lit (.int .i64 a0)),.d (.lit (.int .i64 a1)),.d (.sl 8 (a2.map dInsIns))]]=qPrcProc (l++[⟨a0,a1,a2⟩]):=by
 have e:qPrcProc (l++[⟨a0,a1,a2⟩])=qPrcProc l++[C.tup [.d (.lit (.int .i64 a0)),.d (.lit (.int .i64 a1)),.d (.sl 8 (a2.map dInsIns))]]:=List.map_append
 exact e.symm
@[go_sem] theorem iteq_PrcProc{c:Prop}[Decidable c]{a b:List PrcProc}:(if c then C.tup (qPrcProc a) else C.tup (qPrcProc b))=C.tup (qPrcProc (if c then a else b)):=by split<;>rfl
@[go_sem high] theorem gq_PrcProc_0{l:List PrcProc}{i:Nat}:intD (dOf ((tupOf ((qPrcProc l).getD i .dead)).getD 0 .dead))=(l.getD i zPrcProc).Lo:=by
 simp only [List.getD_eq_getElem?_getD,List.getElem?_map]
 cases l[i]? <;> rfl
@[go_sem high] theorem gq_PrcProc_1{l:List PrcProc}{i:Nat}:intD (dOf ((tupOf ((qPrcProc l).getD i .dead)).getD 1 .dead))=(l.getD i zPrcProc).Hi:=by
 simp only [List.getD_eq_getElem?_getD,List.getElem?_map]
 cases l[i]? <;> rfl
@[go_sem high] theorem gq_PrcProc_2{l:List PrcProc}{i:Nat}:elsD (dOf ((tupOf ((qPrcProc l).getD i .dead)).getD 2 .dead))=(l.getD i zPrcProc).Code.map dInsIns:=by
 simp only [List.getD_eq_getElem?_getD,List.getElem?_map]
 cases l[i]? <;> rfl
@[go_sem] theorem md_PrcProc_0{l:List PrcProc}{i:Nat}{a:Int}:(qPrcProc l).modify i (fun c=>C.tup ((tupOf c).set 0 (C.d (.lit (.int .i64 a)))))=qPrcProc (l.modify i (fun x=>⟨a,x.Hi,x.Code⟩)):=mdq (q:=fun x=>C.tup ((dPrcProc x).map .d)) (fun _=>rfl) l i
@[go_sem] theorem md_PrcProc_1{l:List PrcProc}{i:Nat}{a:Int}:(qPrcProc l).modify i (fun c=>C.tup ((tupOf c).set 1 (C.d (.lit (.int .i64 a)))))=qPrcProc (l.modify i (fun x=>⟨x.Lo,a,x.Code⟩)):=mdq (q:=fun x=>C.tup ((dPrcProc x).map .d)) (fun _=>rfl) l i
@[go_sem] theorem md_PrcProc_2{l:List PrcProc}{i:Nat}{a:List InsIns}:(qPrcProc l).modify i (fun c=>C.tup ((tupOf c).set 2 (C.d (.sl 8 (a.map dInsIns)))))=qPrcProc (l.modify i (fun x=>⟨x.Lo,x.Hi,a⟩)):=mdq (q:=fun x=>C.tup ((dPrcProc x).map .d)) (fun _=>rfl) l i
@[go_sem] theorem qeq_PrcProc{l m:List PrcProc}:C.tup (qPrcProc l)=C.tup (qPrcProc m)↔l=m:=by rw [C.tup.injEq,qinj_PrcProc]
@[go_sem] theorem qnil_PrcProc{m:List PrcProc}:C.tup []=C.tup (qPrcProc m)↔[]=m:=by rw [←qinj_PrcProc,C.tup.injEq];rfl
@[go_sem high] theorem qfz_PrcProc{l:List PrcProc}:(qPrcProc l).map (fun c=>kPrcProc.row ((tupOf c).map dOf))=l.map dPrcProc:=by rw [List.map_map];exact List.map_congr_left (fun x _=>by simp only [Function.comp,tupOf,List.map_map,Function.comp_def,dOf,List.map_id'];exact row_PrcProc x)
def xPrcProc(i:Nat):X:=.agg (.cons (.ati .i64 (i+0) .nil) (.cons (.ati .i64 (i+1) .nil) (.cons (.atl (.cons (.int .i64) (.cons (.int .i64) (.cons (.int .i64) (.cons (.int .i64) (.cons (.int .i64) (.cons (.int .i64) (.cons (.int .i64) (.cons (.int .i64) .nil)))))))) (i+2) .nil) .nil)))
abbrev ePrcProc(i:Nat)(x:PrcProc):En3:={ I:=[(i+0,x.Lo),(i+1,x.Hi)],B:=[],L:=[(i+2,x.Code.map dInsIns)],S:=[] }
def xLPrcProc(i:Nat):X:=.atl (.cons (.int .i64) (.cons (.int .i64) (.cons (.sl (.cons (.int .i64) (.cons (.int .i64) (.cons (.int .i64) (.cons (.int .i64) (.cons (.int .i64) (.cons (.int .i64) (.cons (.int .i64) (.cons (.int .i64) .nil))))))))) .nil))) i .nil
abbrev eLPrcProc(i:Nat)(x:(List PrcProc)):En3:={ L:=[(i,x.map dPrcProc)] }
def zPrgProg : PrgProg:={ Procs:=[] }
@[go_sem] theorem exists_PrgProg{p:PrgProg→Prop}:(∃x,p x)↔∃a0:(List PrcProc),p ⟨a0⟩:=⟨fun ⟨x,h⟩=>⟨x.Procs,h⟩,fun ⟨a0,h⟩=>⟨_,h⟩⟩
def xPrgProg(i:Nat):X:=.agg (.cons (.atl (.cons (.int .i64) (.cons (.int .i64) (.cons (.sl (.cons (.int .i64) (.cons (.int .i64) (.cons (.int .i64) (.cons (.int .i64) (.cons (.int .i64) (.cons (.int .i64) (.cons (.int .i64) (.cons (.int .i64) .nil))))))))) .nil))) (i+0) .nil) .nil)
abbrev ePrgProg(i:Nat)(x:PrgProg):En3:={ I:=[],B:=[],L:=[(i+0,x.Procs.map dPrcProc)],S:=[] }
def zItvItv : ItvItv:={ Lo:=0,Hi:=0 }
def dItvItv(x:ItvItv):List D:=[.lit (.int .i64 x.Lo),.lit (.int .i64 x.Hi)]
@[go_sem] theorem exists_ItvItv{p:ItvItv→Prop}:(∃x,p x)↔∃a0:Int,∃a1:Int,p ⟨a0,a1⟩:=⟨fun ⟨x,h⟩=>⟨x.Lo,x.Hi,h⟩,fun ⟨a0,a1,h⟩=>⟨_,h⟩⟩
abbrev kItvItv : Ki:=.cons (.int .i64) (.cons (.int .i64) .nil)
theorem row_ItvItv(x:ItvItv):kItvItv.row (dItvItv x)=dItvItv x:=rfl
@[go_sem] theorem map_ItvItv{xs:List ItvItv}:(xs.map dItvItv).map kItvItv.row=xs.map dItvItv:=map_row row_ItvItv xs
@[go_sem] theorem get_ItvItv_0{xs:List ItvItv}{i:Nat}:intD (((xs.map dItvItv).getD i []).getD 0 dz)=(xs.getD i zItvItv).Lo:=gD (z:=zItvItv) (g:=fun r=>intD (r.getD 0 dz)) rfl
@[go_sem] theorem get_ItvItv_1{xs:List ItvItv}{i:Nat}:intD (((xs.map dItvItv).getD i []).getD 1 dz)=(xs.getD i zItvItv).Hi:=gD (z:=zItvItv) (g:=fun r=>intD (r.getD 1 dz)) rfl
def uItvItv(r:List D):ItvItv:=⟨intD (r.headD dz),intD (r.tail.headD dz)⟩
theorem un_ItvItv(r:List D):kItvItv.row r=dItvItv (uItvItv r):=rfl
@[go_sem] theorem fz_ItvItv{α:Type}{l:List α}{g:α→List D}:l.map (fun c=>kItvItv.row (g c))=(l.map (fun c=>uItvItv (g c))).map dItvItv:=by simp only [List.map_map,Function.comp_def,un_ItvItv]
theorem mr_ItvItv{l:List (List D)}:l.map kItvItv.row=(l.map uItvItv).map dItvItv:=by rw [List.map_map];exact List.map_congr_left (fun r _=>un_ItvItv r)
@[go_sem] theorem uc_ItvItv{α:Type}{c:α}{l:List α}{g:α→List D}:(c::l).map (fun c=>uItvItv (g c))=uItvItv (g c)::l.map (fun c=>uItvItv (g c)):=rfl
@[go_sem] theorem un0_ItvItv{α:Type}{g:α→List D}:([]:List α).map (fun c=>uItvItv (g c))=[]:=rfl
theorem ud_ItvItv(x:ItvItv):uItvItv (dItvItv x)=x:=rfl
@[go_sem] theorem inj_ItvItv{l m:List ItvItv}:l.map dItvItv=m.map dItvItv↔l=m:=⟨fun h=>by have:=congrArg (List.map uItvItv) h;simpa [Function.comp_def,ud_ItvItv] using this,fun h=>by rw [h]⟩
abbrev qItvItv(l:List ItvItv):List C:=l.map (fun x=>.tup ((dItvItv x).map .d))
@[go_sem] theorem rws_ItvItv{l:List ItvItv}:(l.map dItvItv).map (fun r=>C.tup ((kItvItv.row r).map C.d))=qItvItv l:=by rw [List.map_map];exact List.map_congr_left (fun x _=>by simp only [Function.comp,row_ItvItv])
theorem qinj_ItvItv{l m:List ItvItv}:qItvItv l=qItvItv m↔l=m:=by
 refine ⟨fun h=>?_,fun h=>by rw [h]⟩
 have:=congrArg (List.map (fun c=>uItvItv ((tupOf c).map dOf))) h
 simpa [Function.comp_def,tupOf,dOf,ud_ItvItv] using this
@[go_sem high] theorem qsn_ItvItv{l:List ItvItv}{a0:Int}{a1:Int}:qItvItv l++[C.tup [.d (.lit (.int .i64 a0)),.d (.lit (.int .i64 a1))]]=qItvItv (l++[⟨a0,a1⟩]):=by
 have e:qItvItv (l++[⟨a0,a1⟩])=qItvItv l++[C.tup [.d (.lit (.int .i64 a0)),.d (.lit (.int .i64 a1))]]:=List.map_append
 exact e.symm
@[go_sem] theorem iteq_ItvItv{c:Prop}[Decidable c]{a b:List ItvItv}:(if c then C.tup (qItvItv a) else C.tup (qItvItv b))=C.tup (qItvItv (if c then a else b)):=by split<;>rfl
@[go_sem high] theorem gq_ItvItv_0{l:List ItvItv}{i:Nat}:intD (dOf ((tupOf ((qItvItv l).getD i .dead)).getD 0 .dead))=(l.getD i zItvItv).Lo:=by
 simp only [List.getD_eq_getElem?_getD,List.getElem?_map]
 cases l[i]? <;> rfl
@[go_sem high] theorem gq_ItvItv_1{l:List ItvItv}{i:Nat}:intD (dOf ((tupOf ((qItvItv l).getD i .dead)).getD 1 .dead))=(l.getD i zItvItv).Hi:=by
 simp only [List.getD_eq_getElem?_getD,List.getElem?_map]
 cases l[i]? <;> rfl
@[go_sem] theorem md_ItvItv_0{l:List ItvItv}{i:Nat}{a:Int}:(qItvItv l).modify i (fun c=>C.tup ((tupOf c).set 0 (C.d (.lit (.int .i64 a)))))=qItvItv (l.modify i (fun x=>⟨a,x.Hi⟩)):=mdq (q:=fun x=>C.tup ((dItvItv x).map .d)) (fun _=>rfl) l i
@[go_sem] theorem md_ItvItv_1{l:List ItvItv}{i:Nat}{a:Int}:(qItvItv l).modify i (fun c=>C.tup ((tupOf c).set 1 (C.d (.lit (.int .i64 a)))))=qItvItv (l.modify i (fun x=>⟨x.Lo,a⟩)):=mdq (q:=fun x=>C.tup ((dItvItv x).map .d)) (fun _=>rfl) l i
@[go_sem] theorem qeq_ItvItv{l m:List ItvItv}:C.tup (qItvItv l)=C.tup (qItvItv m)↔l=m:=by rw [C.tup.injEq,qinj_ItvItv]
@[go_sem] theorem qnil_ItvItv{m:List ItvItv}:C.tup []=C.tup (qItvItv m)↔[]=m:=by rw [←qinj_ItvItv,C.tup.injEq];rfl
@[go_sem high] theorem qfz_ItvItv{l:List ItvItv}:(qItvItv l).map (fun c=>kItvItv.row ((tupOf c).map dOf))=l.map dItvItv:=by rw [List.map_map];exact List.map_congr_left (fun x _=>by simp only [Function.comp,tupOf,List.map_map,Function.comp_def,dOf,List.map_id'];exact row_ItvItv x)
def xItvItv(i:Nat):X:=.agg (.cons (.ati .i64 (i+0) .nil) (.cons (.ati .i64 (i+1) .nil) .nil))
abbrev eItvItv(i:Nat)(x:ItvItv):En3:={ I:=[(i+0,x.Lo),(i+1,x.Hi)],B:=[],L:=[],S:=[] }
def xLItvItv(i:Nat):X:=.atl (.cons (.int .i64) (.cons (.int .i64) .nil)) i .nil
abbrev eLItvItv(i:Nat)(x:(List ItvItv)):En3:={ L:=[(i,x.map dItvItv)] }
def zAbsState : AbsState:={ On:=false,Vars:=[],Cells:=zItvItv }
@[go_sem] theorem exists_AbsState{p:AbsState→Prop}:(∃x,p x)↔∃a0:Bool,∃a1:(List ItvItv),∃a2:ItvItv,p ⟨a0,a1,a2⟩:=⟨fun ⟨x,h⟩=>⟨x.On,x.Vars,x.Cells,h⟩,fun ⟨a0,a1,a2,h⟩=>⟨_,h⟩⟩
def xAbsState(i:Nat):X:=.agg (.cons (.atb (i+0) .nil) (.cons (.atl (.cons (.int .i64) (.cons (.int .i64) .nil)) (i+1) .nil) (.cons (.ati .i64 (i+2) .nil) (.cons (.ati .i64 (i+3) .nil) .nil))))
abbrev eAbsState(i:Nat)(x:AbsState):En3:={ I:=[(i+2,x.Cells.Lo),(i+3,x.Cells.Hi)],B:=[(i+0,x.On)],L:=[(i+1,x.Vars.map dItvItv)],S:=[] }
def zSumSum : SumSum:={ On:=false,Out:=zItvItv }
def dSumSum(x:SumSum):List D:=[.lit (.bool x.On),.lit (.int .i64 x.Out.Lo),.lit (.int .i64 x.Out.Hi)]
@[go_sem] theorem exists_SumSum{p:SumSum→Prop}:(∃x,p x)↔∃a0:Bool,∃a1:ItvItv,p ⟨a0,a1⟩:=⟨fun ⟨x,h⟩=>⟨x.On,x.Out,h⟩,fun ⟨a0,a1,h⟩=>⟨_,h⟩⟩
abbrev kSumSum : Ki:=.cons (.bool) (.cons (.int .i64) (.cons (.int .i64) .nil))
theorem row_SumSum(x:SumSum):kSumSum.row (dSumSum x)=dSumSum x:=rfl
@[go_sem] theorem map_SumSum{xs:List SumSum}:(xs.map dSumSum).map kSumSum.row=xs.map dSumSum:=map_row row_SumSum xs
@[go_sem] theorem get_SumSum_0{xs:List SumSum}{i:Nat}:boolD (((xs.map dSumSum).getD i []).getD 0 dz)=(xs.getD i zSumSum).On:=gD (z:=zSumSum) (g:=fun r=>boolD (r.getD 0 dz)) rfl
@[go_sem] theorem get_SumSum_1{xs:List SumSum}{i:Nat}:intD (((xs.map dSumSum).getD i []).getD 1 dz)=(xs.getD i zSumSum).Out.Lo:=gD (z:=zSumSum) (g:=fun r=>intD (r.getD 1 dz)) rfl
@[go_sem] theorem get_SumSum_2{xs:List SumSum}{i:Nat}:intD (((xs.map dSumSum).getD i []).getD 2 dz)=(xs.getD i zSumSum).Out.Hi:=gD (z:=zSumSum) (g:=fun r=>intD (r.getD 2 dz)) rfl
def uSumSum(r:List D):SumSum:=⟨boolD (r.headD dz),⟨intD (r.tail.headD dz),intD (r.tail.tail.headD dz)⟩⟩
@[go_sem] theorem uc_SumSum{α:Type}{c:α}{l:List α}{g:α→List D}:(c::l).map (fun c=>uSumSum (g c))=uSumSum (g c)::l.map (fun c=>uSumSum (g c)):=rfl
@[go_sem] theorem un0_SumSum{α:Type}{g:α→List D}:([]:List α).map (fun c=>uSumSum (g c))=[]:=rfl
theorem ud_SumSum(x:SumSum):uSumSum (dSumSum x)=x:=rfl
@[go_sem] theorem inj_SumSum{l m:List SumSum}:l.map dSumSum=m.map dSumSum↔l=m:=⟨fun h=>by have:=congrArg (List.map uSumSum) h;simpa [Function.comp_def,ud_SumSum] using this,fun h=>by rw [h]⟩
abbrev qSumSum(l:List SumSum):List C:=l.map (fun x=>.tup ((dSumSum x).map .d))
@[go_sem] theorem rws_SumSum{l:List SumSum}:(l.map dSumSum).map (fun r=>C.tup ((kSumSum.row r).map C.d))=qSumSum l:=by rw [List.map_map];exact List.map_congr_left (fun x _=>by simp only [Function.comp,row_SumSum])
theorem qinj_SumSum{l m:List SumSum}:qSumSum l=qSumSum m↔l=m:=by
 refine ⟨fun h=>?_,fun h=>by rw [h]⟩
 have:=congrArg (List.map (fun c=>uSumSum ((tupOf c).map dOf))) h
 simpa [Function.comp_def,tupOf,dOf,ud_SumSum] using this
@[go_sem high] theorem qsn_SumSum{l:List SumSum}{a0:Bool}{a1:Int}{a2:Int}:qSumSum l++[C.tup [.d (.lit (.bool a0)),.d (.lit (.int .i64 a1)),.d (.lit (.int .i64 a2))]]=qSumSum (l++[⟨a0,⟨a1,a2⟩⟩]):=by
 have e:qSumSum (l++[⟨a0,⟨a1,a2⟩⟩])=qSumSum l++[C.tup [.d (.lit (.bool a0)),.d (.lit (.int .i64 a1)),.d (.lit (.int .i64 a2))]]:=List.map_append
 exact e.symm
@[go_sem] theorem iteq_SumSum{c:Prop}[Decidable c]{a b:List SumSum}:(if c then C.tup (qSumSum a) else C.tup (qSumSum b))=C.tup (qSumSum (if c then a else b)):=by split<;>rfl
@[go_sem] theorem md_SumSum_0{l:List SumSum}{i:Nat}{a:Bool}:(qSumSum l).modify i (fun c=>C.tup ((tupOf c).set 0 (C.d (.lit (.bool a)))))=qSumSum (l.modify i (fun x=>⟨a,⟨x.Out.Lo,x.Out.Hi⟩⟩)):=mdq (q:=fun x=>C.tup ((dSumSum x).map .d)) (fun _=>rfl) l i
@[go_sem] theorem md_SumSum_1{l:List SumSum}{i:Nat}{a:Int}:(qSumSum l).modify i (fun c=>C.tup ((tupOf c).set 1 (C.d (.lit (.int .i64 a)))))=qSumSum (l.modify i (fun x=>⟨x.On,⟨a,x.Out.Hi⟩⟩)):=mdq (q:=fun x=>C.tup ((dSumSum x).map .d)) (fun _=>rfl) l i
@[go_sem] theorem md_SumSum_2{l:List SumSum}{i:Nat}{a:Int}:(qSumSum l).modify i (fun c=>C.tup ((tupOf c).set 2 (C.d (.lit (.int .i64 a)))))=qSumSum (l.modify i (fun x=>⟨x.On,⟨x.Out.Lo,a⟩⟩)):=mdq (q:=fun x=>C.tup ((dSumSum x).map .d)) (fun _=>rfl) l i
@[go_sem] theorem qeq_SumSum{l m:List SumSum}:C.tup (qSumSum l)=C.tup (qSumSum m)↔l=m:=by rw [C.tup.injEq,qinj_SumSum]
@[go_sem] theorem qnil_SumSum{m:List SumSum}:C.tup []=C.tup (qSumSum m)↔[]=m:=by rw [←qinj_SumSum,C.tup.injEq];rfl
@[go_sem high] theorem qfz_SumSum{l:List SumSum}:(qSumSum l).map (fun c=>kSumSum.row ((tupOf c).map dOf))=l.map dSumSum:=by rw [List.map_map];exact List.map_congr_left (fun x _=>by simp only [Function.comp,tupOf,List.map_map,Function.comp_def,dOf,List.map_id'];exact row_SumSum x)
def xSumSum(i:Nat):X:=.agg (.cons (.atb (i+0) .nil) (.cons (.ati .i64 (i+1) .nil) (.cons (.ati .i64 (i+2) .nil) .nil)))
abbrev eSumSum(i:Nat)(x:SumSum):En3:={ I:=[(i+1,x.Out.Lo),(i+2,x.Out.Hi)],B:=[(i+0,x.On)],L:=[],S:=[] }
def xLSumSum(i:Nat):X:=.atl (.cons (.bool) (.cons (.int .i64) (.cons (.int .i64) .nil))) i .nil
abbrev eLSumSum(i:Nat)(x:(List SumSum)):En3:={ L:=[(i,x.map dSumSum)] }
def zAbsEdge : AbsEdge:={ To:=0,State:=zAbsState }
def dAbsEdge(x:AbsEdge):List D:=[.lit (.int .i64 x.To),.lit (.bool x.State.On),.sl 2 (x.State.Vars.map dItvItv),.lit (.int .i64 x.State.Cells.Lo),.lit (.int .i64 x.State.Cells.Hi)]
abbrev kAbsEdge : Ki:=.cons (.int .i64) (.cons (.bool) (.cons (.sl (.cons (.int .i64) (.cons (.int .i64) .nil))) (.cons (.int .i64) (.cons (.int .i64) .nil))))
theorem row_AbsEdge(x:AbsEdge):kAbsEdge.row (dAbsEdge x)=dAbsEdge x:=by
 show ([.lit (.int .i64 x.To),.lit (.bool x.State.On),.sl 2 ((x.State.Vars.map dItvItv).map kItvItv.row),.lit (.int .i64 x.State.Cells.Lo),.lit (.int .i64 x.State.Cells.Hi)]:List D)=_
 simp only [map_ItvItv,dAbsEdge]
@[go_sem] theorem map_AbsEdge{xs:List AbsEdge}:(xs.map dAbsEdge).map kAbsEdge.row=xs.map dAbsEdge:=map_row row_AbsEdge xs
@[go_sem] theorem get_AbsEdge_0{xs:List AbsEdge}{i:Nat}:intD (((xs.map dAbsEdge).getD i []).getD 0 dz)=(xs.getD i zAbsEdge).To:=gD (z:=zAbsEdge) (g:=fun r=>intD (r.getD 0 dz)) rfl
@[go_sem] theorem get_AbsEdge_1{xs:List AbsEdge}{i:Nat}:boolD (((xs.map dAbsEdge).getD i []).getD 1 dz)=(xs.getD i zAbsEdge).State.On:=gD (z:=zAbsEdge) (g:=fun r=>boolD (r.getD 1 dz)) rfl
@[go_sem] theorem get_AbsEdge_2{xs:List AbsEdge}{i:Nat}:elsD (((xs.map dAbsEdge).getD i []).getD 2 dz)=(xs.getD i zAbsEdge).State.Vars.map dItvItv:=gD (z:=zAbsEdge) (g:=fun r=>elsD (r.getD 2 dz)) rfl
@[go_sem] theorem get_AbsEdge_3{xs:List AbsEdge}{i:Nat}:intD (((xs.map dAbsEdge).getD i []).getD 3 dz)=(xs.getD i zAbsEdge).State.Cells.Lo:=gD (z:=zAbsEdge) (g:=fun r=>intD (r.getD 3 dz)) rfl
@[go_sem] theorem get_AbsEdge_4{xs:List AbsEdge}{i:Nat}:intD (((xs.map dAbsEdge).getD i []).getD 4 dz)=(xs.getD i zAbsEdge).State.Cells.Hi:=gD (z:=zAbsEdge) (g:=fun r=>intD (r.getD 4 dz)) rfl
def uAbsEdge(r:List D):AbsEdge:=⟨intD (r.headD dz),⟨boolD (r.tail.headD dz),(elsD (r.tail.tail.headD dz)).map uItvItv,⟨intD (r.tail.tail.tail.headD dz),intD (r.tail.tail.tail.tail.headD dz)⟩⟩⟩
theorem un_AbsEdge(r:List D):kAbsEdge.row r=dAbsEdge (uAbsEdge r):=by
 show ([.lit (.int .i64 (intD (r.headD dz))),.lit (.bool (boolD (r.tail.headD dz))),.sl 2 ((elsD (r.tail.tail.headD dz)).map kItvItv.row),.lit (.int .i64 (intD (r.tail.tail.tail.headD dz))),.lit (.int .i64 (intD (r.tail.tail.tail.tail.headD dz)))]:List D)=_
 simp only [mr_ItvItv,dAbsEdge,uAbsEdge]
@[go_sem] theorem fz_AbsEdge{α:Type}{l:List α}{g:α→List D}:l.map (fun c=>kAbsEdge.row (g c))=(l.map (fun c=>uAbsEdge (g c))).map dAbsEdge:=by simp only [List.map_map,Function.comp_def,un_AbsEdge]
@[go_sem] theorem uc_AbsEdge{α:Type}{c:α}{l:List α}{g:α→List D}:(c::l).map (fun c=>uAbsEdge (g c))=uAbsEdge (g c)::l.map (fun c=>uAbsEdge (g c)):=rfl
@[go_sem] theorem un0_AbsEdge{α:Type}{g:α→List D}:([]:List α).map (fun c=>uAbsEdge (g c))=[]:=rfl
theorem ud_AbsEdge(x:AbsEdge):uAbsEdge (dAbsEdge x)=x:=by
 simp only [uAbsEdge,dAbsEdge,List.headD_cons,List.tail_cons,intD_i,boolD_b,strD_s,elsD_s,List.map_map,Function.comp_def,ud_ItvItv,List.map_id']
@[go_sem] theorem inj_AbsEdge{l m:List AbsEdge}:l.map dAbsEdge=m.map dAbsEdge↔l=m:=⟨fun h=>by have:=congrArg (List.map uAbsEdge) h;simpa [Function.comp_def,ud_AbsEdge] using this,fun h=>by rw [h]⟩
abbrev qAbsEdge(l:List AbsEdge):List C:=l.map (fun x=>.tup ((dAbsEdge x).map .d))
@[go_sem] theorem rws_AbsEdge{l:List AbsEdge}:(l.map dAbsEdge).map (fun r=>C.tup ((kAbsEdge.row r).map C.d))=qAbsEdge l:=by rw [List.map_map];exact List.map_congr_left (fun x _=>by simp only [Function.comp,row_AbsEdge])
theorem qinj_AbsEdge{l m:List AbsEdge}:qAbsEdge l=qAbsEdge m↔l=m:=by
 refine ⟨fun h=>?_,fun h=>by rw [h]⟩
 have:=congrArg (List.map (fun c=>uAbsEdge ((tupOf c).map dOf))) h
 simpa [Function.comp_def,tupOf,dOf,ud_AbsEdge] using this
@[go_sem high] theorem qsn_AbsEdge{l:List AbsEdge}{a0:Int}{a1:Bool}{a2:List ItvItv}{a3:Int}{a4:Int}:qAbsEdge l++[C.tup [.d (.lit (.int .i64 a0)),.d (.lit (.bool a1)),.d (.sl 2 (a2.map dItvItv)),.d (.lit (.int .i64 a3)),.d (.lit (.int .i64 a4))]]=qAbsEdge (l++[⟨a0,⟨a1,a2,⟨a3,a4⟩⟩⟩]):=by
 have e:qAbsEdge (l++[⟨a0,⟨a1,a2,⟨a3,a4⟩⟩⟩])=qAbsEdge l++[C.tup [.d (.lit (.int .i64 a0)),.d (.lit (.bool a1)),.d (.sl 2 (a2.map dItvItv)),.d (.lit (.int .i64 a3)),.d (.lit (.int .i64 a4))]]:=List.map_append
 exact e.symm
@[go_sem] theorem qeq_AbsEdge{l m:List AbsEdge}:C.tup (qAbsEdge l)=C.tup (qAbsEdge m)↔l=m:=by rw [C.tup.injEq,qinj_AbsEdge]
@[go_sem] theorem qnil_AbsEdge{m:List AbsEdge}:C.tup []=C.tup (qAbsEdge m)↔[]=m:=by rw [←qinj_AbsEdge,C.tup.injEq];rfl
@[go_sem high] theorem qfz_AbsEdge{l:List AbsEdge}:(qAbsEdge l).map (fun c=>kAbsEdge.row ((tupOf c).map dOf))=l.map dAbsEdge:=by rw [List.map_map];exact List.map_congr_left (fun x _=>by simp only [Function.comp,tupOf,List.map_map,Function.comp_def,dOf,List.map_id'];exact row_AbsEdge x)
def xLAbsEdge(i:Nat):X:=.atl (.cons (.int .i64) (.cons (.bool) (.cons (.sl (.cons (.int .i64) (.cons (.int .i64) .nil))) (.cons (.int .i64) (.cons (.int .i64) .nil))))) i .nil
abbrev eLAbsEdge(i:Nat)(x:(List AbsEdge)):En3:={ L:=[(i,x.map dAbsEdge)] }
def zRunFrame : RunFrame:={ Proc:=0,Pc:=0,Vars:=[],Cells:=[] }
def dRunFrame(x:RunFrame):List D:=[.lit (.int .i64 x.Proc),.lit (.int .i64 x.Pc),.sl 1 (x.Vars.map dInt),.sl 1 (x.Cells.map dInt)]
abbrev kRunFrame : Ki:=.cons (.int .i64) (.cons (.int .i64) (.cons (.sl (.cons (.int .i64) .nil)) (.cons (.sl (.cons (.int .i64) .nil)) .nil)))
theorem row_RunFrame(x:RunFrame):kRunFrame.row (dRunFrame x)=dRunFrame x:=by
 show ([.lit (.int .i64 x.Proc),.lit (.int .i64 x.Pc),.sl 1 ((x.Vars.map dInt).map kInt.row),.sl 1 ((x.Cells.map dInt).map kInt.row)]:List D)=_
 simp only [map_Int,dRunFrame]
@[go_sem] theorem map_RunFrame{xs:List RunFrame}:(xs.map dRunFrame).map kRunFrame.row=xs.map dRunFrame:=map_row row_RunFrame xs
@[go_sem] theorem get_RunFrame_0{xs:List RunFrame}{i:Nat}:intD (((xs.map dRunFrame).getD i []).getD 0 dz)=(xs.getD i zRunFrame).Proc:=gD (z:=zRunFrame) (g:=fun r=>intD (r.getD 0 dz)) rfl
@[go_sem] theorem get_RunFrame_1{xs:List RunFrame}{i:Nat}:intD (((xs.map dRunFrame).getD i []).getD 1 dz)=(xs.getD i zRunFrame).Pc:=gD (z:=zRunFrame) (g:=fun r=>intD (r.getD 1 dz)) rfl
@[go_sem] theorem get_RunFrame_2{xs:List RunFrame}{i:Nat}:elsD (((xs.map dRunFrame).getD i []).getD 2 dz)=(xs.getD i zRunFrame).Vars.map dInt:=gD (z:=zRunFrame) (g:=fun r=>elsD (r.getD 2 dz)) rfl
@[go_sem] theorem get_RunFrame_3{xs:List RunFrame}{i:Nat}:elsD (((xs.map dRunFrame).getD i []).getD 3 dz)=(xs.getD i zRunFrame).Cells.map dInt:=gD (z:=zRunFrame) (g:=fun r=>elsD (r.getD 3 dz)) rfl
def uRunFrame(r:List D):RunFrame:=⟨intD (r.headD dz),intD (r.tail.headD dz),(elsD (r.tail.tail.headD dz)).map uInt,(elsD (r.tail.tail.tail.headD dz)).map uInt⟩
theorem un_RunFrame(r:List D):kRunFrame.row r=dRunFrame (uRunFrame r):=by
 show ([.lit (.int .i64 (intD (r.headD dz))),.lit (.int .i64 (intD (r.tail.headD dz))),.sl 1 ((elsD (r.tail.tail.headD dz)).map kInt.row),.sl 1 ((elsD (r.tail.tail.tail.headD dz)).map kInt.row)]:List D)=_
 simp only [mr_Int,dRunFrame,uRunFrame]
@[go_sem] theorem fz_RunFrame{α:Type}{l:List α}{g:α→List D}:l.map (fun c=>kRunFrame.row (g c))=(l.map (fun c=>uRunFrame (g c))).map dRunFrame:=by simp only [List.map_map,Function.comp_def,un_RunFrame]
@[go_sem] theorem uc_RunFrame{α:Type}{c:α}{l:List α}{g:α→List D}:(c::l).map (fun c=>uRunFrame (g c))=uRunFrame (g c)::l.map (fun c=>uRunFrame (g c)):=rfl
@[go_sem] theorem un0_RunFrame{α:Type}{g:α→List D}:([]:List α).map (fun c=>uRunFrame (g c))=[]:=rfl
def xRunRun(i:Nat):X:=.agg (.cons (.ati .i64 (i+0) .nil) (.cons (.atl (.cons (.int .i64) (.cons (.int .i64) (.cons (.sl (.cons (.int .i64) .nil)) (.cons (.sl (.cons (.int .i64) .nil)) .nil)))) (i+1) .nil) (.cons (.ati .i64 (i+2) .nil) (.cons (.ati .i64 (i+3) .nil) (.cons (.ati .i64 (i+4) .nil) .nil)))))
abbrev eRunRun(i:Nat)(x:RunRun):En3:={ I:=[(i+0,x.State),(i+2,x.Out),(i+3,x.Proc),(i+4,x.Pc)],B:=[],L:=[(i+1,x.Frames.map dRunFrame)],S:=[] }
@[go_sem] theorem arAdd{k:IntKind}{a b:Int}:arI .add k a b=k.wrap (a+b):=rfl
@[go_sem] theorem arSub{k:IntKind}{a b:Int}:arI .sub k a b=k.wrap (a-b):=rfl
@[go_sem] theorem arMul{k:IntKind}{a b:Int}:arI .mul k a b=k.wrap (a*b):=rfl
@[go_sem] theorem arQuo{k:IntKind}{a b:Int}:arI .quo k a b=k.wrap (a.tdiv b):=rfl
@[go_sem] theorem arRem{k:IntKind}{a b:Int}:arI .rem k a b=a.tmod b:=rfl
@[go_sem] theorem CInj{k:IntKind}{a b:Int}:(C.d (.lit (.int k a))=C.d (.lit (.int k b)))↔a=b:=by simp
@[go_sem] theorem CBnj{a b:Bool}:(C.d (.lit (.bool a))=C.d (.lit (.bool b)))↔a=b:=by simp
@[go_sem] theorem mdOf0 : ([]:List C).map dOf=[]:=rfl
@[go_sem] theorem mdOf1{c:C}{l:List C}:(c::l).map dOf=dOf c::l.map dOf:=rfl
@[go_sem] theorem mCd0 : ([]:List D).map C.d=[]:=rfl
@[go_sem] theorem mCd1{c:D}{l:List D}:(c::l).map C.d=C.d c::l.map C.d:=rfl
@[go_sem] theorem mXd0{e:Env}:([]:List X).map (X.den e)=[]:=rfl
@[go_sem] theorem mXd1{e:Env}{c:X}{l:List X}:(c::l).map (X.den e)=X.den e c::l.map (X.den e):=rfl
@[go_sem] theorem mBd0{e:Env}:([]:List XB).map (XB.den e)=[]:=rfl
@[go_sem] theorem mBd1{e:Env}{c:XB}{l:List XB}:(c::l).map (XB.den e)=XB.den e c::l.map (XB.den e):=rfl
@[go_sem] theorem rowsC0 : rowsC (.tup [])=[]:=rfl
@[go_sem] theorem rowsC1{c:C}{l:List C}:rowsC (.tup (c::l))=tupOf c::rowsC (.tup l):=rfl
@[go_sem] theorem rowsCm{α:Type}{l:List α}{f:α→C}:rowsC (.tup (l.map f))=l.map (fun x=>tupOf (f x)):=by simp [rowsC,tupOf,Function.comp_def]
@[go_sem] theorem headD_c{α:Type}{a d:α}{l:List α}:(a::l).headD d=a:=rfl
@[go_sem] theorem headD_n{α:Type}{d:α}:([]:List α).headD d=d:=rfl
@[go_sem] theorem tail_c{α:Type}{a:α}{l:List α}:(a::l).tail=l:=rfl
def tabI(j:Nat):List C→List Int
 | []=>[]
 | c::l=>intD (dOf ((tupOf c).getD j .dead))::tabI j l
@[go_sem] theorem tabI0{j:Nat}:tabI j []=[]:=rfl
@[go_sem] theorem tabI1{j:Nat}{c:C}{l:List C}:tabI j (c::l)=intD (dOf ((tupOf c).getD j .dead))::tabI j l:=rfl
@[go_sem] theorem iteCI{c:Prop}[Decidable c]{k:IntKind}{a b:Int}:(if c then C.d (.lit (.int k a)) else C.d (.lit (.int k b)))=C.d (.lit (.int k (if c then a else b))):=by split<;>rfl
@[go_sem] theorem iteCB{c:Prop}[Decidable c]{a b:Bool}:(if c then C.d (.lit (.bool a)) else C.d (.lit (.bool b)))=C.d (.lit (.bool (if c then a else b))):=by split<;>rfl
@[go_sem] theorem iteCS{c:Prop}[Decidable c]{n:Nat}{a b:List (List D)}:(if c then C.d (.sl n a) else C.d (.sl n b))=C.d (.sl n (if c then a else b)):=by split<;>rfl
@[go_sem] theorem CSnj{n:Nat}{a b:List (List D)}:(C.d (.sl n a)=C.d (.sl n b))↔a=b:=by simp
def sel(l:List Int)(i:Int):Int:=l.getD i.toNat 0
@[grind =] theorem sel_nil{i:Int}:sel [] i=0:=rfl
@[grind =] theorem sel_cons{a:Int}{l:List Int}{i:Int}:sel (a::l) i=if i≤0 then a else sel l (i-1):=by
 unfold sel
 split
 · rw [show i.toNat=0 by omega];rfl
 · rw [show i.toNat=(i-1).toNat+1 by omega];rfl
theorem sel_mem(l:List Int)(i:Int):sel l i=0∨sel l i∈l:=by
 unfold sel
 rw [List.getD_eq_getElem?_getD]
 cases h:l[i.toNat]? with
 | none=>exact .inl rfl
 | some z=>exact .inr (List.mem_of_getElem? h)
theorem sel_lo{l:List Int}{lo i:Int}(h:(decide (lo≤0)&&l.all (fun z=>decide (lo≤z)))=true):lo≤sel l i:=by
 rw [Bool.and_eq_true] at h
 rcases sel_mem l i with e|e
 · rw [e];exact of_decide_eq_true h.1
 · exact of_decide_eq_true (List.all_eq_true.1 h.2 _ e)
theorem sel_hi{l:List Int}{hi i:Int}(h:(decide (0≤hi)&&l.all (fun z=>decide (z≤hi)))=true):sel l i≤hi:=by
 rw [Bool.and_eq_true] at h
 rcases sel_mem l i with e|e
 · rw [e];exact of_decide_eq_true h.1
 · exact of_decide_eq_true (List.all_eq_true.1 h.2 _ e)
@[go_sem] theorem tbX{l:List C}{i:Int}{j:Nat}:intD (dOf ((tupOf (l.getD i.toNat .dead)).getD j .dead))=sel (tabI j l) i:=by
 have e:tabI j l=l.map (fun c=>intD (dOf ((tupOf c).getD j .dead))):=by
  induction l with
  | nil=>rfl
  | cons c l ih=>simp only [tabI,ih,List.map_cons]
 rw [e]
 unfold sel
 simp only [List.getD_eq_getElem?_getD,List.getElem?_map]
 cases l[i.toNat]? <;> rfl
@[go_sem] theorem getD0{α:Type}{a d:α}{l:List α}:(a::l).getD 0 d=a:=rfl
@[go_sem] theorem getDs{α:Type}{a d:α}{l:List α}{n:Nat}:(a::l).getD (n+1) d=l.getD n d:=rfl
theorem tk_snoc{α:Type}(xs:List α)(x:Int)(d:α)(h0:0≤x)(h:x<xs.length):xs.take (x+1).toNat=xs.take x.toNat++[xs.getD x.toNat d]:=by
 have e:(x+1).toNat=x.toNat+1:=by omega
 have hl:x.toNat<xs.length:=by omega
 rw [e,List.take_succ_eq_append_getElem hl,List.getD_eq_getElem?_getD,List.getElem?_eq_getElem hl];rfl
theorem tk_all{α:Type}(xs:List α)(p:α→Bool)(x:Int)(d:α)(h0:0≤x)(h:x<xs.length):(xs.take (x+1).toNat).all p=((xs.take x.toNat).all p&&p (xs.getD x.toNat d)):=by
 rw [tk_snoc xs x d h0 h];simp
theorem tk_end{α:Type}{xs:List α}{x:Int}(h:xs.length≤x):xs.take x.toNat=xs:=List.take_of_length_le (by omega)
@[go_sem] theorem tk_0{α:Type}{xs:List α}:xs.take (Int.toNat 0)=[]:=rfl
theorem all_bad{α:Type}{xs:List α}{p:α→Bool}{x:Int}{d:α}(h0:0≤x)(h:x<xs.length)(hp:p (xs.getD x.toNat d)=false):xs.all p=false:=by
 have hl:x.toNat<xs.length:=by omega
 rw [List.getD_eq_getElem?_getD,List.getElem?_eq_getElem hl] at hp
 exact List.all_eq_false.2 ⟨_,List.getElem_mem hl,by simpa using hp⟩
attribute [go_sem] V.Holds X.den cmpI ileB iltB dAbsEdge xAbsState xBool dInsIns xInsIns dInt xInt dItvItv xItvItv xLAbsEdge xLInsIns xLInt xLItvItv xLPrcProc xLSumSum xLU8 dPrcProc xPrcProc xPrgProg dRunFrame xRunRun dSumSum xSumSum dU8 uAbsEdge uInsIns uInt uItvItv uPrcProc uRunFrame uSumSum
attribute [go_sem] reduceIte Int.toNat_natCast Int.ofNat_eq_natCast List.length_nil List.length_cons List.length_append List.length_map true_and and_true implies_true Bool.true_and Bool.and_true Ki.len Bool.not_eq_true exists_eq_right exists_eq_right_right exists_eq_left exists_eq_right' exists_eq_right_right' exists_eq_left' Prod.exists Prod.forall Bool.not_eq_eq_eq_not Bool.not_true Bool.not_false
end Ow
namespace Go.Proofs.YtjakhnhnjhafgaaGreat.Wk
open Go Go.RowKit Go.Deep Ow
set_option maxRecDepth 100000
theorem NumOk_e{n:Int}{r:Bool}(h:numOk n=r):EC Tryz.prog 72 0 [CI n] [] (CB r) [] 0:=by
 subst h
 refine (seat [] []).PU (mkM true []) (fn:=Tryz.f72) ⟨by kernel_rfl,by kernel_rfl,rfl⟩ (mkEs [eInt 10 n]) noLps [] [xInt 10] rfl (fun _=>?_)
 conv=>arg 4;cbv
 simp only [go_sem,Nat.reduceEqDiff,Nat.reduceAdd,Nat.reduceBEq,Int.reduceToNat]
 simp [numOk]
theorem ItvOk_e{a0:Int}{a1:Int}{r:Bool}(h:itvOk (⟨a0,a1⟩:ItvItv)=r):EC Tryz.prog 106 0 [.agg [CI a0,CI a1]] [] (CB r) [] 0:=by
 subst h
 refine (seat [] []).PU (mkM true []) (fn:=Tryz.f106) ⟨by kernel_rfl,by kernel_rfl,rfl⟩ (mkEs [eItvItv 10 ⟨a0,a1⟩,eB 112000 (numOk (⟨a0,a1⟩:ItvItv).Lo),eB 116000 (numOk (⟨a0,a1⟩:ItvItv).Hi)]) noLps [] [xItvItv 10] rfl (fun _=>?_)
 conv=>arg 4;cbv
 simp only [go_sem,Nat.reduceEqDiff,Nat.reduceAdd,Nat.reduceBEq,Int.reduceToNat,NumOk_e]
 simp [itvOk,Bool.and_assoc]
def l7None(a:ItvItv):Bool:=a.Lo==0&&a.Hi==0
theorem l7None_e{a0:Int}{a1:Int}{r:Bool}(h:l7None (⟨a0,a1⟩:ItvItv)=r):EC Tryz.prog 105 0 [.agg [CI a0,CI a1]] [] (CB r) [] 0:=by
 subst h
 refine (seat [] []).PU (mkM true []) (fn:=Tryz.f105) ⟨by kernel_rfl,by kernel_rfl,rfl⟩ (mkEs [eItvItv 10 ⟨a0,a1⟩]) noLps [] [xItvItv 10] rfl (fun _=>?_)
 conv=>arg 4;cbv
 simp only [go_sem,Nat.reduceEqDiff,Nat.reduceAdd,Nat.reduceBEq,Int.reduceToNat]
 rfl
def absOk(s:AbsState):Bool:=if s.On then decide (s.Vars.length=4)&&itvOk s.Cells&&s.Vars.all itvOk else decide (s.Vars.length=0)&&l7None s.Cells
theorem AbsOk_e{s0:Bool}{s1:List ItvItv}{s2:Int}{s3:Int}{r:Bool}(h:absOk (⟨s0,s1,⟨s2,s3⟩⟩:AbsState)=r):EC Tryz.prog 43 0 [.agg [CB s0,.d (.sl 2 (s1.map dItvItv)),CI s2,CI s3]] [] (CB r) [] 0:=by
 subst h
 refine (seat [] []).PU (mkM true [4,33]) (fn:=Tryz.f43) ⟨by kernel_rfl,by kernel_rfl,rfl⟩ (mkEs [eAbsState 10 ⟨s0,s1,⟨s2,s3⟩⟩,eB 217000 (l7None (⟨s0,s1,⟨s2,s3⟩⟩:AbsState).Cells),eB 317000 (itvOk (⟨s0,s1,⟨s2,s3⟩⟩:AbsState).Cells)]) (consL ⟨Int,fun _ k=>0≤k∧k≤4∧((⟨s0,s1,⟨s2,s3⟩⟩:AbsState).Vars.take k.toNat).all itvOk=true,fun _ k=>mkEs [eI 1 k,eB 815000 (itvOk ((⟨s0,s1,⟨s2,s3⟩⟩:AbsState).Vars.getD k.toNat zItvItv))],fun _ k=>(4-k).toNat⟩ noLps) [(0,fun s=>(0,(s.kl (mkM true [4,33])).upd [(3,xi 100000001)]))] [xAbsState 10] (by simp only [go_sem,Nat.reduceEqDiff,Nat.reduceAdd,Nat.reduceBEq,Int.reduceToNat]) (fun _=>?_)
 conv=>arg 4;cbv
 simp only [go_sem,Nat.reduceEqDiff,Nat.reduceAdd,Nat.reduceBEq,Int.reduceToNat,Nat.reduceDiv,Nat.reduceMod,lput,consL,ItvOk_e,l7None_e]
 simp +contextual (disch:=omega) only [wrapI]
 grind [absOk,tk_all,tk_end,all_bad]
end Go.Proofs.YtjakhnhnjhafgaaGreat.Wk
namespace Go.Proofs.YtjakhnhnjhafgaaGreat.Wk
open Go Go.RowKit Go.Deep Ow
set_option maxRecDepth 100000
def l1In(n lo hi:Int):Bool:=decide (lo≤n)&&decide (n≤hi)
theorem l1In_e{n:Int}{lo:Int}{hi:Int}{r:Bool}(h:l1In n lo hi=r):EC Tryz.prog 71 0 [CI n,CI lo,CI hi] [] (CB r) [] 0:=by
 subst h
 refine (seat [] []).PU (mkM true []) (fn:=Tryz.f71) ⟨by kernel_rfl,by kernel_rfl,rfl⟩ (mkEs [eInt 10 n,eInt 30 lo,eInt 50 hi]) noLps [] [xInt 10,xInt 30,xInt 50] rfl (fun _=>?_)
 conv=>arg 4;cbv
 simp only [go_sem,Nat.reduceEqDiff,Nat.reduceAdd,Nat.reduceBEq,Int.reduceToNat]
 grind [l1In]
def itvHas(a:ItvItv)(n:Int):Bool:=itvOk a&&l1In n a.Lo a.Hi
def itvIn(a b:ItvItv):Bool:=itvOk a&&itvOk b&&decide (b.Lo≤a.Lo)&&decide (a.Hi≤b.Hi)
theorem l7Places_e{r:ItvItv}(h:(⟨0,3⟩:ItvItv)=r):EC Tryz.prog 60 0 [] [] (.agg [CI r.Lo,CI r.Hi]) [] 0:=by
 subst h
 refine (seat [] []).PU (mkM true []) (fn:=Tryz.f60) ⟨by kernel_rfl,by kernel_rfl,rfl⟩ (mkEs []) noLps [] [] rfl (fun _=>?_)
 conv=>arg 4;cbv
 simp only [go_sem,Nat.reduceEqDiff,Nat.reduceAdd,Nat.reduceBEq,Int.reduceToNat]
def l2Cut(a:ItvItv)(n:Int):ItvItv×Bool:=if a.Lo=n∧a.Hi=n then (⟨0,0⟩,false) else (⟨if a.Lo=n then IntKind.i64.wrap (n+1) else a.Lo,if a.Hi=n then IntKind.i64.wrap (n-1) else a.Hi⟩,true)
theorem l2Cut_e{a0:Int}{a1:Int}{n:Int}{r0:ItvItv}{r1:Bool}(h0:(l2Cut (⟨a0,a1⟩:ItvItv) n).1=r0)(h1:(l2Cut (⟨a0,a1⟩:ItvItv) n).2=r1):EC Tryz.prog 199 0 [.agg [CI a0,CI a1],CI n] [] (.tup [.agg [CI r0.Lo,CI r0.Hi],CB r1]) [] 0:=by
 subst h0 h1
 refine (seat [] []).PU (mkM true []) (fn:=Tryz.f199) ⟨by kernel_rfl,by kernel_rfl,rfl⟩ (mkEs [eItvItv 10 ⟨a0,a1⟩,eInt 30 n]) noLps [] [xItvItv 10,xInt 30] rfl (fun _=>?_)
 conv=>arg 4;cbv
 simp only [go_sem,Nat.reduceEqDiff,Nat.reduceAdd,Nat.reduceBEq,Int.reduceToNat]
 grind [l2Cut]
def l2Both(a b:ItvItv):ItvItv×ItvItv×Bool:=if a.Hi<a.Lo∨b.Hi<b.Lo then (⟨0,0⟩,⟨0,0⟩,false) else (a,b,true)
theorem l2Both_e{a0:Int}{a1:Int}{b0:Int}{b1:Int}{r0:ItvItv}{r1:ItvItv}{r2:Bool}(h0:(l2Both (⟨a0,a1⟩:ItvItv) (⟨b0,b1⟩:ItvItv)).1=r0)(h1:(l2Both (⟨a0,a1⟩:ItvItv) (⟨b0,b1⟩:ItvItv)).2.1=r1)(h2:(l2Both (⟨a0,a1⟩:ItvItv) (⟨b0,b1⟩:ItvItv)).2.2=r2):EC Tryz.prog 171 0 [.agg [CI a0,CI a1],.agg [CI b0,CI b1]] [] (.tup [.agg [CI r0.Lo,CI r0.Hi],.agg [CI r1.Lo,CI r1.Hi],CB r2]) [] 0:=by
 subst h0 h1 h2
 refine (seat [] []).PU (mkM true []) (fn:=Tryz.f171) ⟨by kernel_rfl,by kernel_rfl,rfl⟩ (mkEs [eItvItv 10 ⟨a0,a1⟩,eItvItv 30 ⟨b0,b1⟩]) noLps [] [xItvItv 10,xItvItv 30] rfl (fun _=>?_)
 conv=>arg 4;cbv
 simp only [go_sem,Nat.reduceEqDiff,Nat.reduceAdd,Nat.reduceBEq,Int.reduceToNat]
 grind [l2Both]
def l2Other(a b:ItvItv):ItvItv×ItvItv×Bool:=
 let x:=if b.Lo=b.Hi then l2Cut a b.Lo else (a,true)
 let y:=if x.2=true∧a.Lo=a.Hi then l2Cut b a.Lo else (b,x.2)
 if y.2 then (x.1,y.1,true) else (⟨0,0⟩,⟨0,0⟩,false)
theorem l2Other_e{a0:Int}{a1:Int}{b0:Int}{b1:Int}{r0:ItvItv}{r1:ItvItv}{r2:Bool}(h0:(l2Other (⟨a0,a1⟩:ItvItv) (⟨b0,b1⟩:ItvItv)).1=r0)(h1:(l2Other (⟨a0,a1⟩:ItvItv) (⟨b0,b1⟩:ItvItv)).2.1=r1)(h2:(l2Other (⟨a0,a1⟩:ItvItv) (⟨b0,b1⟩:ItvItv)).2.2=r2):EC Tryz.prog 172 0 [.agg [CI a0,CI a1],.agg [CI b0,CI b1]] [] (.tup [.agg [CI r0.Lo,CI r0.Hi],.agg [CI r1.Lo,CI r1.Hi],CB r2]) [] 0:=by
 subst h0 h1 h2
 refine (seat [] []).PU (mkM true [10,35]) (fn:=Tryz.f172) ⟨by kernel_rfl,by kernel_rfl,rfl⟩ (mkEs [eItvItv 10 ⟨a0,a1⟩,eItvItv 30 ⟨b0,b1⟩,eItvItv 513000 (l2Cut (⟨a0,a1⟩:ItvItv) (⟨b0,b1⟩:ItvItv).Lo).1,eB 513030 (l2Cut (⟨a0,a1⟩:ItvItv) (⟨b0,b1⟩:ItvItv).Lo).2,eItvItv 713000 (l2Cut (⟨b0,b1⟩:ItvItv) (⟨a0,a1⟩:ItvItv).Lo).1,eB 713030 (l2Cut (⟨b0,b1⟩:ItvItv) (⟨a0,a1⟩:ItvItv).Lo).2]) noLps [] [xItvItv 10,xItvItv 30] rfl (fun _=>?_)
 conv=>arg 4;cbv
 simp only [go_sem,Nat.reduceEqDiff,Nat.reduceAdd,Nat.reduceBEq,Int.reduceToNat]
 repeat' (first|with_reducible apply And.intro|intro _)
 all_goals first|exact l2Cut_e rfl rfl|grind [l2Other]
abbrev mn(a b:Int):Int:=if decide (b<a)=true then b else a
abbrev mx(a b:Int):Int:=if decide (a<b)=true then b else a
def itvRel(rel:Int)(a b:ItvItv):ItvItv×ItvItv×Bool:=
 if (!itvOk a||!itvOk b)=true then (⟨0,0⟩,⟨0,0⟩,false)
 else if rel=1 then l2Both ⟨a.Lo,mn a.Hi (IntKind.i64.wrap (b.Hi-1))⟩ ⟨mx b.Lo (IntKind.i64.wrap (a.Lo+1)),b.Hi⟩
 else if rel=2 then l2Both ⟨a.Lo,mn a.Hi b.Hi⟩ ⟨mx b.Lo a.Lo,b.Hi⟩
 else if rel=3 then l2Both ⟨mx a.Lo b.Lo,mn a.Hi b.Hi⟩ ⟨mx a.Lo b.Lo,mn a.Hi b.Hi⟩
 else if rel=4 then l2Other a b
 else (⟨0,0⟩,⟨0,0⟩,false)
theorem ItvRel_e{rel:Int}{a0:Int}{a1:Int}{b0:Int}{b1:Int}{r0:ItvItv}{r1:ItvItv}{r2:Bool}(h0:(itvRel rel (⟨a0,a1⟩:ItvItv) (⟨b0,b1⟩:ItvItv)).1=r0)(h1:(itvRel rel (⟨a0,a1⟩:ItvItv) (⟨b0,b1⟩:ItvItv)).2.1=r1)(h2:(itvRel rel (⟨a0,a1⟩:ItvItv) (⟨b0,b1⟩:ItvItv)).2.2=r2):EC Tryz.prog 126 0 [CI rel,.agg [CI a0,CI a1],.agg [CI b0,CI b1]] [] (.tup [.agg [CI r0.Lo,CI r0.Hi],.agg [CI r1.Lo,CI r1.Hi],CB r2]) [] 0:=by
 subst h0 h1 h2
 refine (seat [] []).PU (mkM true [3,1,6,10,1,75]) (fn:=Tryz.f126) ⟨by kernel_rfl,by kernel_rfl,rfl⟩ (mkEs [eInt 10 rel,eItvItv 30 ⟨a0,a1⟩,eItvItv 50 ⟨b0,b1⟩,eB 111000 (itvOk (⟨a0,a1⟩:ItvItv)),eB 115000 (itvOk (⟨b0,b1⟩:ItvItv)),eItvItv 528000 (l2Both ⟨(⟨a0,a1⟩:ItvItv).Lo,mn (⟨a0,a1⟩:ItvItv).Hi (IntKind.i64.wrap ((⟨b0,b1⟩:ItvItv).Hi-1))⟩ ⟨mx (⟨b0,b1⟩:ItvItv).Lo (IntKind.i64.wrap ((⟨a0,a1⟩:ItvItv).Lo+1)),(⟨b0,b1⟩:ItvItv).Hi⟩).1,eItvItv 528030 (l2Both ⟨(⟨a0,a1⟩:ItvItv).Lo,mn (⟨a0,a1⟩:ItvItv).Hi (IntKind.i64.wrap ((⟨b0,b1⟩:ItvItv).Hi-1))⟩ ⟨mx (⟨b0,b1⟩:ItvItv).Lo (IntKind.i64.wrap ((⟨a0,a1⟩:ItvItv).Lo+1)),(⟨b0,b1⟩:ItvItv).Hi⟩).2.1,eB 528060 (l2Both ⟨(⟨a0,a1⟩:ItvItv).Lo,mn (⟨a0,a1⟩:ItvItv).Hi (IntKind.i64.wrap ((⟨b0,b1⟩:ItvItv).Hi-1))⟩ ⟨mx (⟨b0,b1⟩:ItvItv).Lo (IntKind.i64.wrap ((⟨a0,a1⟩:ItvItv).Lo+1)),(⟨b0,b1⟩:ItvItv).Hi⟩).2.2,eItvItv 726000 (l2Both ⟨(⟨a0,a1⟩:ItvItv).Lo,mn (⟨a0,a1⟩:ItvItv).Hi (⟨b0,b1⟩:ItvItv).Hi⟩ ⟨mx (⟨b0,b1⟩:ItvItv).Lo (⟨a0,a1⟩:ItvItv).Lo,(⟨b0,b1⟩:ItvItv).Hi⟩).1,eItvItv 726030 (l2Both ⟨(⟨a0,a1⟩:ItvItv).Lo,mn (⟨a0,a1⟩:ItvItv).Hi (⟨b0,b1⟩:ItvItv).Hi⟩ ⟨mx (⟨b0,b1⟩:ItvItv).Lo (⟨a0,a1⟩:ItvItv).Lo,(⟨b0,b1⟩:ItvItv).Hi⟩).2.1,eB 726060 (l2Both ⟨(⟨a0,a1⟩:ItvItv).Lo,mn (⟨a0,a1⟩:ItvItv).Hi (⟨b0,b1⟩:ItvItv).Hi⟩ ⟨mx (⟨b0,b1⟩:ItvItv).Lo (⟨a0,a1⟩:ItvItv).Lo,(⟨b0,b1⟩:ItvItv).Hi⟩).2.2,eItvItv 1012000 (l2Both ⟨mx (⟨a0,a1⟩:ItvItv).Lo (⟨b0,b1⟩:ItvItv).Lo,mn (⟨a0,a1⟩:ItvItv).Hi (⟨b0,b1⟩:ItvItv).Hi⟩ ⟨mx (⟨a0,a1⟩:ItvItv).Lo (⟨b0,b1⟩:ItvItv).Lo,mn (⟨a0,a1⟩:ItvItv).Hi (⟨b0,b1⟩:ItvItv).Hi⟩).1,eItvItv 1012030 (l2Both ⟨mx (⟨a0,a1⟩:ItvItv).Lo (⟨b0,b1⟩:ItvItv).Lo,mn (⟨a0,a1⟩:ItvItv).Hi (⟨b0,b1⟩:ItvItv).Hi⟩ ⟨mx (⟨a0,a1⟩:ItvItv).Lo (⟨b0,b1⟩:ItvItv).Lo,mn (⟨a0,a1⟩:ItvItv).Hi (⟨b0,b1⟩:ItvItv).Hi⟩).2.1,eB 1012060 (l2Both ⟨mx (⟨a0,a1⟩:ItvItv).Lo (⟨b0,b1⟩:ItvItv).Lo,mn (⟨a0,a1⟩:ItvItv).Hi (⟨b0,b1⟩:ItvItv).Hi⟩ ⟨mx (⟨a0,a1⟩:ItvItv).Lo (⟨b0,b1⟩:ItvItv).Lo,mn (⟨a0,a1⟩:ItvItv).Hi (⟨b0,b1⟩:ItvItv).Hi⟩).2.2,eItvItv 1212000 (l2Other (⟨a0,a1⟩:ItvItv) (⟨b0,b1⟩:ItvItv)).1,eItvItv 1212030 (l2Other (⟨a0,a1⟩:ItvItv) (⟨b0,b1⟩:ItvItv)).2.1,eB 1212060 (l2Other (⟨a0,a1⟩:ItvItv) (⟨b0,b1⟩:ItvItv)).2.2]) noLps [] [xInt 10,xItvItv 30,xItvItv 50] rfl (fun _=>?_)
 conv=>arg 4;cbv
 simp only [go_sem,Nat.reduceEqDiff,Nat.reduceAdd,Nat.reduceBEq,Int.reduceToNat]
 repeat' (first|with_reducible apply And.intro|intro _)
 all_goals first|exact ItvOk_e rfl|exact l2Both_e rfl rfl rfl|exact l2Other_e rfl rfl rfl|grind [itvRel]
def itvNot(rel:Int)(a b:ItvItv):ItvItv×ItvItv×Bool:=
 if rel=1 then ((itvRel 2 b a).2.1,(itvRel 2 b a).1,(itvRel 2 b a).2.2)
 else if rel=2 then ((itvRel 1 b a).2.1,(itvRel 1 b a).1,(itvRel 1 b a).2.2)
 else if rel=3 then itvRel 4 a b
 else if rel=4 then itvRel 3 a b
 else (⟨0,0⟩,⟨0,0⟩,false)
end Go.Proofs.YtjakhnhnjhafgaaGreat.Wk
