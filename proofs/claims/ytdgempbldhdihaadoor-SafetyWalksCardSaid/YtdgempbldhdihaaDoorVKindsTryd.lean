/- The kinds of this program's slices: what an element's cells are. -/
import Derived.Test.YtdgempbldhdihaaDoorVAmC
import Derived.Test.YtdgempbldhdihaaDoorProg
namespace Go.Am.Tryd
open Go.Proofs Go.Am
structure S42 where
  f0 : ByteArray
  f1 : Int
  f2 : Int
  f3 : Int
  f4 : Int
structure S47 where
  f0 : Int
  f1 : Int
  f2 : Int
  f3 : Int
structure S120 where
  f0 : Int
  f1 : Int
  f2 : ByteArray
  f3 : Int
  f4 : Int
structure S165 where
  f0 : Int
  f1 : ByteArray
  f2 : Int
  f3 : List (S120)
  f4 : Int
  f5 : Int
structure S95 where
  f0 : Int
  f1 : List (S120)
structure S98 where
  f0 : ByteArray
  f1 : Int
  f2 : Int
  f3 : List (S165)
  f4 : List (S165)
  f5 : List (S165)
  f6 : List (S95)
structure S110 where
  f0 : ByteArray
  f1 : Bool
  f2 : Int
  f3 : Int
structure S112 where
  f0 : ByteArray
  f1 : Int
structure S122 where
  f0 : Int
  f1 : Int
  f2 : Int
  f3 : Int
structure S163 where
  f0 : Int
  f1 : Int
structure S195 where
  f0 : Int
  f1 : Int
structure S166 where
  f0 : ByteArray
  f1 : Int
inductive Kc where
  | T42 | T47 | T120 | T165 | T95 | T98 | T92 | T3 | T21 | T26 | T110 | T9 | T112 | T4 | T122 | T5 | T163 | T161 | T195 | T166
  deriving DecidableEq
def κ : Kinds where
  Kc := Kc
  deq := inferInstance
  ty := fun k => match k with
    | .T42 => S42
    | .T47 => S47
    | .T120 => S120
    | .T165 => S165
    | .T95 => S95
    | .T98 => S98
    | .T92 => List (S95)
    | .T3 => Int
    | .T21 => Int
    | .T26 => Int
    | .T110 => S110
    | .T9 => ByteArray
    | .T112 => S112
    | .T4 => Bool
    | .T122 => S122
    | .T5 => Int
    | .T163 => S163
    | .T161 => List (S163)
    | .T195 => S195
    | .T166 => S166
  elem := fun k => match k with
    | .T42 => 42
    | .T47 => 47
    | .T120 => 120
    | .T165 => 165
    | .T95 => 95
    | .T98 => 98
    | .T92 => 92
    | .T3 => 3
    | .T21 => 21
    | .T26 => 26
    | .T110 => 110
    | .T9 => 9
    | .T112 => 112
    | .T4 => 4
    | .T122 => 122
    | .T5 => 5
    | .T163 => 163
    | .T161 => 161
    | .T195 => 195
    | .T166 => 166
  sz := fun k => match k with
    | .T42 => 5
    | .T47 => 4
    | .T120 => 5
    | .T165 => 6
    | .T95 => 2
    | .T98 => 7
    | .T92 => 1
    | .T3 => 1
    | .T21 => 1
    | .T26 => 1
    | .T110 => 4
    | .T9 => 1
    | .T112 => 2
    | .T4 => 1
    | .T122 => 4
    | .T5 => 1
    | .T163 => 2
    | .T161 => 1
    | .T195 => 2
    | .T166 => 1
  bytes := fun k => match k with
    | .T42 => 48
    | .T47 => 32
    | .T120 => 48
    | .T165 => 72
    | .T95 => 32
    | .T98 => 128
    | .T92 => 24
    | .T3 => 8
    | .T21 => 4
    | .T26 => 8
    | .T110 => 40
    | .T9 => 16
    | .T112 => 24
    | .T4 => 1
    | .T122 => 32
    | .T5 => 1
    | .T163 => 16
    | .T161 => 24
    | .T195 => 16
    | .T166 => 8
def pats : Kc → List (Pat κ)
  | .T42 => [.str, .int .i64, .int .i64, .int .i64, .int .i64]
  | .T47 => [.int .i64, .int .i64, .int .i64, .int .i64]
  | .T120 => [.int .i64, .int .i32, .str, .int .i64, .int .i64]
  | .T165 => [.int .i64, .str, .int .i64, .ro .T120, .int .i64, .int .i64]
  | .T95 => [.int .i64, .ro .T120]
  | .T98 => [.str, .int .i64, .int .u64, .ro .T165, .ro .T165, .ro .T165, .ro .T95]
  | .T92 => [.ro .T95]
  | .T3 => [.int .i64]
  | .T21 => [.int .i32]
  | .T26 => [.int .u64]
  | .T110 => [.str, .bool, .int .i64, .int .i64]
  | .T9 => [.str]
  | .T112 => [.str, .int .i32]
  | .T4 => [.bool]
  | .T122 => [.int .i64, .int .i64, .int .i64, .int .i64]
  | .T5 => [.int .u8]
  | .T163 => [.int .i64, .int .i64]
  | .T161 => [.ro .T163]
  | .T195 => [.int .i64, .int .i64]
  | .T166 => [.nilP]
def key_T166 (x : S166) : MKey := .s x.f0
def mval_T166 (x : S166) : AV κ := .val (.int .i64 x.f1)
def mmk_T166 (m : MKey) (v : AV κ) : Option S166 := match m with
  | .s b => (match (gets (κ := κ) [.int .i64] [v]) with | some d => some ⟨b, d.1⟩ | none => none)
  | _ => none
theorem mmk_T166_ok {m : MKey} {v : AV κ} {x : S166} (h : mmk_T166 m v = some x) : key_T166 x = m ∧ mval_T166 x = v := by
  unfold mmk_T166 at h
  split at h
  · split at h
    · rename_i d hd
      obtain rfl := Option.some.inj h
      exact ⟨rfl, (List.cons.inj (mmk_one (ps := [.int .i64]) rfl hd)).1⟩
    · cases h
  · cases h
def D : KindData κ where
  pats := pats
  to := fun k => match k with
    | .T42 => fun d => (⟨d.1, d.2.1, d.2.2.1, d.2.2.2.1, d.2.2.2.2.1⟩ : S42)
    | .T47 => fun d => (⟨d.1, d.2.1, d.2.2.1, d.2.2.2.1⟩ : S47)
    | .T120 => fun d => (⟨d.1, d.2.1, d.2.2.1, d.2.2.2.1, d.2.2.2.2.1⟩ : S120)
    | .T165 => fun d => (⟨d.1, d.2.1, d.2.2.1, d.2.2.2.1, d.2.2.2.2.1, d.2.2.2.2.2.1⟩ : S165)
    | .T95 => fun d => (⟨d.1, d.2.1⟩ : S95)
    | .T98 => fun d => (⟨d.1, d.2.1, d.2.2.1, d.2.2.2.1, d.2.2.2.2.1, d.2.2.2.2.2.1, d.2.2.2.2.2.2.1⟩ : S98)
    | .T92 => fun d => d.1
    | .T3 => fun d => d.1
    | .T21 => fun d => d.1
    | .T26 => fun d => d.1
    | .T110 => fun d => (⟨d.1, d.2.1, d.2.2.1, d.2.2.2.1⟩ : S110)
    | .T9 => fun d => d.1
    | .T112 => fun d => (⟨d.1, d.2.1⟩ : S112)
    | .T4 => fun d => d.1
    | .T122 => fun d => (⟨d.1, d.2.1, d.2.2.1, d.2.2.2.1⟩ : S122)
    | .T5 => fun d => d.1
    | .T163 => fun d => (⟨d.1, d.2.1⟩ : S163)
    | .T161 => fun d => d.1
    | .T195 => fun d => (⟨d.1, d.2.1⟩ : S195)
    | .T166 => fun _ => (⟨ByteArray.empty, 0⟩ : S166)
  of := fun k => match k with
    | .T42 => fun (x : S42) => (x.f0, x.f1, x.f2, x.f3, x.f4, ())
    | .T47 => fun (x : S47) => (x.f0, x.f1, x.f2, x.f3, ())
    | .T120 => fun (x : S120) => (x.f0, x.f1, x.f2, x.f3, x.f4, ())
    | .T165 => fun (x : S165) => (x.f0, x.f1, x.f2, x.f3, x.f4, x.f5, ())
    | .T95 => fun (x : S95) => (x.f0, x.f1, ())
    | .T98 => fun (x : S98) => (x.f0, x.f1, x.f2, x.f3, x.f4, x.f5, x.f6, ())
    | .T92 => fun x => (x, ())
    | .T3 => fun x => (x, ())
    | .T21 => fun x => (x, ())
    | .T26 => fun x => (x, ())
    | .T110 => fun (x : S110) => (x.f0, x.f1, x.f2, x.f3, ())
    | .T9 => fun x => (x, ())
    | .T112 => fun (x : S112) => (x.f0, x.f1, ())
    | .T4 => fun x => (x, ())
    | .T122 => fun (x : S122) => (x.f0, x.f1, x.f2, x.f3, ())
    | .T5 => fun x => (x, ())
    | .T163 => fun (x : S163) => (x.f0, x.f1, ())
    | .T161 => fun x => (x, ())
    | .T195 => fun (x : S195) => (x.f0, x.f1, ())
    | .T166 => fun _ => ((), ())
  dflt := fun k => match k with
    | .T42 => (⟨ByteArray.empty, 0, 0, 0, 0⟩ : S42)
    | .T47 => (⟨0, 0, 0, 0⟩ : S47)
    | .T120 => (⟨0, 0, ByteArray.empty, 0, 0⟩ : S120)
    | .T165 => (⟨0, ByteArray.empty, 0, [], 0, 0⟩ : S165)
    | .T95 => (⟨0, []⟩ : S95)
    | .T98 => (⟨ByteArray.empty, 0, 0, [], [], [], []⟩ : S98)
    | .T92 => ([] : List (S95))
    | .T3 => (0 : Int)
    | .T21 => (0 : Int)
    | .T26 => (0 : Int)
    | .T110 => (⟨ByteArray.empty, false, 0, 0⟩ : S110)
    | .T9 => (ByteArray.empty : ByteArray)
    | .T112 => (⟨ByteArray.empty, 0⟩ : S112)
    | .T4 => (false : Bool)
    | .T122 => (⟨0, 0, 0, 0⟩ : S122)
    | .T5 => (0 : Int)
    | .T163 => (⟨0, 0⟩ : S163)
    | .T161 => ([] : List (S163))
    | .T195 => (⟨0, 0⟩ : S195)
    | .T166 => (⟨ByteArray.empty, 0⟩ : S166)
  byte := fun k => match k with
    | .T42 => none
    | .T47 => none
    | .T120 => none
    | .T165 => none
    | .T95 => none
    | .T98 => none
    | .T92 => none
    | .T3 => none
    | .T21 => none
    | .T26 => none
    | .T110 => none
    | .T9 => none
    | .T112 => none
    | .T4 => none
    | .T122 => none
    | .T5 => some (fun (x : Int) => x)
    | .T163 => none
    | .T161 => none
    | .T195 => none
    | .T166 => none
  key := fun k => match k with
    | .T42 => fun _ => .no
    | .T47 => fun _ => .no
    | .T120 => fun _ => .no
    | .T165 => fun _ => .no
    | .T95 => fun _ => .no
    | .T98 => fun _ => .no
    | .T92 => fun _ => .no
    | .T3 => fun _ => .no
    | .T21 => fun _ => .no
    | .T26 => fun _ => .no
    | .T110 => fun _ => .no
    | .T9 => fun _ => .no
    | .T112 => fun _ => .no
    | .T4 => fun _ => .no
    | .T122 => fun _ => .no
    | .T5 => fun _ => .no
    | .T163 => fun _ => .no
    | .T161 => fun _ => .no
    | .T195 => fun _ => .no
    | .T166 => key_T166
  mval := fun k => match k with
    | .T42 => fun _ => .val undef
    | .T47 => fun _ => .val undef
    | .T120 => fun _ => .val undef
    | .T165 => fun _ => .val undef
    | .T95 => fun _ => .val undef
    | .T98 => fun _ => .val undef
    | .T92 => fun _ => .val undef
    | .T3 => fun _ => .val undef
    | .T21 => fun _ => .val undef
    | .T26 => fun _ => .val undef
    | .T110 => fun _ => .val undef
    | .T9 => fun _ => .val undef
    | .T112 => fun _ => .val undef
    | .T4 => fun _ => .val undef
    | .T122 => fun _ => .val undef
    | .T5 => fun _ => .val undef
    | .T163 => fun _ => .val undef
    | .T161 => fun _ => .val undef
    | .T195 => fun _ => .val undef
    | .T166 => mval_T166
  mmk := fun k => match k with
    | .T42 => fun _ _ => none
    | .T47 => fun _ _ => none
    | .T120 => fun _ _ => none
    | .T165 => fun _ _ => none
    | .T95 => fun _ _ => none
    | .T98 => fun _ _ => none
    | .T92 => fun _ _ => none
    | .T3 => fun _ _ => none
    | .T21 => fun _ _ => none
    | .T26 => fun _ _ => none
    | .T110 => fun _ _ => none
    | .T9 => fun _ _ => none
    | .T112 => fun _ _ => none
    | .T4 => fun _ _ => none
    | .T122 => fun _ _ => none
    | .T5 => fun _ _ => none
    | .T163 => fun _ _ => none
    | .T161 => fun _ _ => none
    | .T195 => fun _ _ => none
    | .T166 => mmk_T166
def E : Encs κ := D.encs
def kindOf : TypeId → Option Kc := fun t => if t = 42 then some .T42 else if t = 47 then some .T47 else if t = 120 then some .T120 else if t = 165 then some .T165 else if t = 95 then some .T95 else if t = 98 then some .T98 else if t = 92 then some .T92 else if t = 3 then some .T3 else if t = 21 then some .T21 else if t = 26 then some .T26 else if t = 110 then some .T110 else if t = 9 then some .T9 else if t = 112 then some .T112 else if t = 4 then some .T4 else if t = 122 then some .T122 else if t = 5 then some .T5 else if t = 163 then some .T163 else if t = 161 then some .T161 else if t = 195 then some .T195 else if t = 166 then some .T166 else none
def tab2 : List (ByteArray) := [(⟨#[112, 108, 97, 110]⟩ : ByteArray), (⟨#[99, 111, 110, 115, 116]⟩ : ByteArray), (⟨#[103, 114, 111, 117, 112]⟩ : ByteArray), (⟨#[118, 101, 104, 105, 99, 108, 101]⟩ : ByteArray), (⟨#[112, 101, 100, 101, 115, 116, 114, 105, 97, 110]⟩ : ByteArray), (⟨#[109, 105, 110]⟩ : ByteArray), (⟨#[97, 109, 98, 101, 114]⟩ : ByteArray), (⟨#[108, 101, 97, 100]⟩ : ByteArray), (⟨#[99, 111, 110, 102, 108, 105, 99, 116]⟩ : ByteArray), (⟨#[100, 101, 116, 101, 99, 116, 111, 114]⟩ : ByteArray), (⟨#[108, 97, 116, 99, 104]⟩ : ByteArray), (⟨#[100, 101, 108, 97, 121]⟩ : ByteArray), (⟨#[104, 111, 108, 100]⟩ : ByteArray), (⟨#[116, 105, 109, 101, 114]⟩ : ByteArray), (⟨#[99, 111, 117, 110, 116, 101, 114]⟩ : ByteArray), (⟨#[118, 97, 114]⟩ : ByteArray), (⟨#[99, 111, 110, 100]⟩ : ByteArray), (⟨#[115, 116, 97, 114, 116]⟩ : ByteArray), (⟨#[115, 116, 97, 103, 101]⟩ : ByteArray), (⟨#[103, 114, 101, 101, 110]⟩ : ByteArray), (⟨#[101, 110, 116, 101, 114]⟩ : ByteArray), (⟨#[100, 117, 114, 105, 110, 103]⟩ : ByteArray), (⟨#[108, 101, 97, 118, 101]⟩ : ByteArray), (⟨#[110, 101, 120, 116]⟩ : ByteArray), (⟨#[119, 104, 101, 110]⟩ : ByteArray), (⟨#[114, 101, 115, 101, 116]⟩ : ByteArray), (⟨#[114, 117, 110]⟩ : ByteArray), (⟨#[115, 116, 111, 112]⟩ : ByteArray), (⟨#[99, 111, 117, 110, 116]⟩ : ByteArray), (⟨#[99, 108, 101, 97, 114]⟩ : ByteArray), (⟨#[105, 102]⟩ : ByteArray), (⟨#[101, 108, 115, 101]⟩ : ByteArray), (⟨#[111, 114]⟩ : ByteArray), (⟨#[97, 110, 100]⟩ : ByteArray), (⟨#[110, 111, 116]⟩ : ByteArray), (⟨#[116, 114, 117, 101]⟩ : ByteArray), (⟨#[102, 97, 108, 115, 101]⟩ : ByteArray), (⟨#[101, 108, 97, 112, 115, 101, 100]⟩ : ByteArray), (⟨#[114, 101, 100]⟩ : ByteArray), (⟨#[109, 97, 120]⟩ : ByteArray), (⟨#[97, 98, 115]⟩ : ByteArray)]
def tab3 : List (ByteArray) := [(⟨#[123]⟩ : ByteArray), (⟨#[125]⟩ : ByteArray), (⟨#[40]⟩ : ByteArray), (⟨#[41]⟩ : ByteArray), (⟨#[44]⟩ : ByteArray), (⟨#[59]⟩ : ByteArray), (⟨#[61]⟩ : ByteArray), (⟨#[61, 61]⟩ : ByteArray), (⟨#[33, 61]⟩ : ByteArray), (⟨#[60]⟩ : ByteArray), (⟨#[60, 61]⟩ : ByteArray), (⟨#[62]⟩ : ByteArray), (⟨#[62, 61]⟩ : ByteArray), (⟨#[43]⟩ : ByteArray), (⟨#[45]⟩ : ByteArray), (⟨#[42]⟩ : ByteArray), (⟨#[47]⟩ : ByteArray), (⟨#[37]⟩ : ByteArray)]
def tab4 : List (ByteArray) := [(⟨#[112, 108, 97, 110]⟩ : ByteArray), (⟨#[99, 111, 110, 115, 116]⟩ : ByteArray), (⟨#[103, 114, 111, 117, 112]⟩ : ByteArray), (⟨#[118, 101, 104, 105, 99, 108, 101]⟩ : ByteArray), (⟨#[112, 101, 100, 101, 115, 116, 114, 105, 97, 110]⟩ : ByteArray), (⟨#[109, 105, 110]⟩ : ByteArray), (⟨#[97, 109, 98, 101, 114]⟩ : ByteArray), (⟨#[108, 101, 97, 100]⟩ : ByteArray), (⟨#[99, 111, 110, 102, 108, 105, 99, 116]⟩ : ByteArray), (⟨#[100, 101, 116, 101, 99, 116, 111, 114]⟩ : ByteArray), (⟨#[108, 97, 116, 99, 104]⟩ : ByteArray), (⟨#[100, 101, 108, 97, 121]⟩ : ByteArray), (⟨#[104, 111, 108, 100]⟩ : ByteArray), (⟨#[116, 105, 109, 101, 114]⟩ : ByteArray), (⟨#[99, 111, 117, 110, 116, 101, 114]⟩ : ByteArray), (⟨#[118, 97, 114]⟩ : ByteArray), (⟨#[99, 111, 110, 100]⟩ : ByteArray), (⟨#[115, 116, 97, 114, 116]⟩ : ByteArray), (⟨#[115, 116, 97, 103, 101]⟩ : ByteArray), (⟨#[103, 114, 101, 101, 110]⟩ : ByteArray), (⟨#[101, 110, 116, 101, 114]⟩ : ByteArray), (⟨#[100, 117, 114, 105, 110, 103]⟩ : ByteArray), (⟨#[108, 101, 97, 118, 101]⟩ : ByteArray), (⟨#[110, 101, 120, 116]⟩ : ByteArray), (⟨#[119, 104, 101, 110]⟩ : ByteArray), (⟨#[114, 101, 115, 101, 116]⟩ : ByteArray), (⟨#[114, 117, 110]⟩ : ByteArray), (⟨#[115, 116, 111, 112]⟩ : ByteArray), (⟨#[99, 111, 117, 110, 116]⟩ : ByteArray), (⟨#[99, 108, 101, 97, 114]⟩ : ByteArray), (⟨#[105, 102]⟩ : ByteArray), (⟨#[101, 108, 115, 101]⟩ : ByteArray), (⟨#[111, 114]⟩ : ByteArray), (⟨#[97, 110, 100]⟩ : ByteArray), (⟨#[110, 111, 116]⟩ : ByteArray), (⟨#[116, 114, 117, 101]⟩ : ByteArray), (⟨#[102, 97, 108, 115, 101]⟩ : ByteArray), (⟨#[101, 108, 97, 112, 115, 101, 100]⟩ : ByteArray), (⟨#[114, 101, 100]⟩ : ByteArray), (⟨#[109, 97, 120]⟩ : ByteArray), (⟨#[97, 98, 115]⟩ : ByteArray)]
def tab5 : List (ByteArray) := [(⟨#[123]⟩ : ByteArray), (⟨#[125]⟩ : ByteArray), (⟨#[40]⟩ : ByteArray), (⟨#[41]⟩ : ByteArray), (⟨#[44]⟩ : ByteArray), (⟨#[59]⟩ : ByteArray), (⟨#[61]⟩ : ByteArray), (⟨#[61, 61]⟩ : ByteArray), (⟨#[33, 61]⟩ : ByteArray), (⟨#[60]⟩ : ByteArray), (⟨#[60, 61]⟩ : ByteArray), (⟨#[62]⟩ : ByteArray), (⟨#[62, 61]⟩ : ByteArray), (⟨#[43]⟩ : ByteArray), (⟨#[45]⟩ : ByteArray), (⟨#[42]⟩ : ByteArray), (⟨#[47]⟩ : ByteArray), (⟨#[37]⟩ : ByteArray)]
def tab6 : List (Int) := [((0 : Int) : Int), ((0 : Int) : Int), ((0 : Int) : Int), ((0 : Int) : Int), ((0 : Int) : Int), ((0 : Int) : Int), ((0 : Int) : Int), ((0 : Int) : Int), ((0 : Int) : Int), ((0 : Int) : Int), ((0 : Int) : Int), ((0 : Int) : Int), ((0 : Int) : Int), ((0 : Int) : Int), ((0 : Int) : Int), ((0 : Int) : Int), ((0 : Int) : Int), ((0 : Int) : Int), ((0 : Int) : Int), ((0 : Int) : Int), ((1 : Int) : Int), ((1 : Int) : Int), ((1 : Int) : Int), ((0 : Int) : Int), ((0 : Int) : Int), ((0 : Int) : Int), ((0 : Int) : Int), ((0 : Int) : Int), ((0 : Int) : Int), ((0 : Int) : Int), ((2 : Int) : Int), ((2 : Int) : Int), ((2 : Int) : Int), ((2 : Int) : Int), ((2 : Int) : Int), ((2 : Int) : Int), ((2 : Int) : Int), ((0 : Int) : Int), ((0 : Int) : Int), ((0 : Int) : Int), ((2 : Int) : Int), ((2 : Int) : Int), ((2 : Int) : Int), ((2 : Int) : Int), ((2 : Int) : Int), ((2 : Int) : Int), ((0 : Int) : Int), ((0 : Int) : Int), ((0 : Int) : Int), ((0 : Int) : Int), ((2 : Int) : Int), ((2 : Int) : Int)]
def glob : Nat → AV κ := fun g => if g = 2 then .tab .T9 tab2 else if g = 3 then .tab .T9 tab3 else if g = 4 then .tab .T9 tab4 else if g = 5 then .tab .T9 tab5 else if g = 6 then .tab .T3 tab6 else .val (.pointer (some ⟨g, 0, none⟩))
theorem encOk : E.Ok := D.ok (fun k d => by cases k <;> rfl) (fun k => by cases k <;> rfl) (fun k => by cases k <;> rfl) (fun k => by cases k <;> decide) (fun k f x h => by cases k <;> first | (cases h; done) | (cases h; rfl)) (fun k m v x h => by cases k <;> first | (cases h; done) | exact mmk_T166_ok h) (fun k x => by cases k <;> rfl) (fun k x y => by cases k <;> rfl)
set_option maxRecDepth 100000 in
theorem fitOk : ∀ k : κ.Kc, Fit Tryd.prog k := fun k => match k with
  | Kc.T42 => fit_of (κ := κ) (P := Tryd.prog) (k := Kc.T42) (by kernel_rfl)
  | Kc.T47 => fit_of (κ := κ) (P := Tryd.prog) (k := Kc.T47) (by kernel_rfl)
  | Kc.T120 => fit_of (κ := κ) (P := Tryd.prog) (k := Kc.T120) (by kernel_rfl)
  | Kc.T165 => fit_of (κ := κ) (P := Tryd.prog) (k := Kc.T165) (by kernel_rfl)
  | Kc.T95 => fit_of (κ := κ) (P := Tryd.prog) (k := Kc.T95) (by kernel_rfl)
  | Kc.T98 => fit_of (κ := κ) (P := Tryd.prog) (k := Kc.T98) (by kernel_rfl)
  | Kc.T92 => fit_of (κ := κ) (P := Tryd.prog) (k := Kc.T92) (by kernel_rfl)
  | Kc.T3 => fit_of (κ := κ) (P := Tryd.prog) (k := Kc.T3) (by kernel_rfl)
  | Kc.T21 => fit_of (κ := κ) (P := Tryd.prog) (k := Kc.T21) (by kernel_rfl)
  | Kc.T26 => fit_of (κ := κ) (P := Tryd.prog) (k := Kc.T26) (by kernel_rfl)
  | Kc.T110 => fit_of (κ := κ) (P := Tryd.prog) (k := Kc.T110) (by kernel_rfl)
  | Kc.T9 => fit_of (κ := κ) (P := Tryd.prog) (k := Kc.T9) (by kernel_rfl)
  | Kc.T112 => fit_of (κ := κ) (P := Tryd.prog) (k := Kc.T112) (by kernel_rfl)
  | Kc.T4 => fit_of (κ := κ) (P := Tryd.prog) (k := Kc.T4) (by kernel_rfl)
  | Kc.T122 => fit_of (κ := κ) (P := Tryd.prog) (k := Kc.T122) (by kernel_rfl)
  | Kc.T5 => fit_of (κ := κ) (P := Tryd.prog) (k := Kc.T5) (by kernel_rfl)
  | Kc.T163 => fit_of (κ := κ) (P := Tryd.prog) (k := Kc.T163) (by kernel_rfl)
  | Kc.T161 => fit_of (κ := κ) (P := Tryd.prog) (k := Kc.T161) (by kernel_rfl)
  | Kc.T195 => fit_of (κ := κ) (P := Tryd.prog) (k := Kc.T195) (by kernel_rfl)
  | Kc.T166 => fit_of (κ := κ) (P := Tryd.prog) (k := Kc.T166) (by kernel_rfl)
theorem mixOk : Tryd.prog.follows .mixedOrders = true := by kernel_rfl
theorem globOk {F : Nat → Option Obj} (h2 : Rep E F noPl (.tab .T9 tab2) (.pointer (some ⟨2, 0, none⟩))) (h3 : Rep E F noPl (.tab .T9 tab3) (.pointer (some ⟨3, 0, none⟩))) (h4 : Rep E F noPl (.tab .T9 tab4) (.pointer (some ⟨4, 0, none⟩))) (h5 : Rep E F noPl (.tab .T9 tab5) (.pointer (some ⟨5, 0, none⟩))) (h6 : Rep E F noPl (.tab .T3 tab6) (.pointer (some ⟨6, 0, none⟩))) : GlobOk E glob F := fun g ψ => by
  unfold glob
  split
  · rename_i h; subst h; exact tab_any encOk h2
  split
  · rename_i h; subst h; exact tab_any encOk h3
  split
  · rename_i h; subst h; exact tab_any encOk h4
  split
  · rename_i h; subst h; exact tab_any encOk h5
  split
  · rename_i h; subst h; exact tab_any encOk h6
  exact .val _
noncomputable def mkCtx (es : List (EntS κ)) (qs : List (QEntS κ)) (ls : List (LamS κ)) : Ctx κ := { P := Tryd.prog, E := E, glob := glob, Γ := lookE es, Γq := lookQ qs, Λ := lookL ls }
theorem ctxOk {es : List (EntS κ)} {qs : List (QEntS κ)} {ls : List (LamS κ)} (h1 : AllE Tryd.prog E glob es) (h2 : AllQ Tryd.prog E glob qs) : (mkCtx es qs ls).Ok :=
  ⟨encOk, fitOk, lookE_ok h1, lookQ_ok h2, mixOk⟩
end Go.Am.Tryd
